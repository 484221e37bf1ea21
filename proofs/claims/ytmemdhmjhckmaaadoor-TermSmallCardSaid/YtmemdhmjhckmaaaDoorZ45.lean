/- TermSmall: the walk. -/
import Derived.Test.YtmemdhmjhckmaaaDoorZ44
import Derived.Test.YtmemdhmjhckmaaaDoorZ6
import Derived.Test.YtmemdhmjhckmaaaDoorZ26
namespace Go.Proofs.YtmemdhmjhckmaaaDoor
open Go.RowKit
set_option maxRecDepth 100000

/-- What the box reads, its frame and its bells. -/
def RdS (zb gb cb n : Nat) (R C row col bl : Nat) (V : World) : Prop :=
  V.cell? ⟨zb, 0, none⟩ = some (.int .i64 (R : Int)) ∧ V.cell? ⟨zb, 1, none⟩ = some (.int .i64 (C : Int)) ∧ V.cell? ⟨zb, 2, none⟩ = some (.slice (some ⟨gb, 0, none⟩) n cb) ∧ V.cell? ⟨zb, 3, none⟩ = some (.int .i64 (row : Int)) ∧ V.cell? ⟨zb, 4, none⟩ = some (.int .i64 (col : Int)) ∧ V.cell? ⟨zb, 11, none⟩ = some (.int .i64 (bl : Int))
theorem TrB.rds {w0 W : World} {z g cap n : Nat} {R C : Nat} {cs : List Cl} {row col : Nat} {p : Nat × ByteArray} {s : Cl} {wt : Bool} {bl : Nat} (h : TrB w0 W z g cap ⟨R, C, cs, row, col, p, s, wt, bl⟩) (hn : cs.length = n) : RdS z g cap n R C row col bl W := by
  subst hn
  obtain ⟨c0, c1, c2, c3, c4, -, -, -, -, -, -, c11⟩ := h.reads
  exact ⟨c0, c1, c2, c3, c4, c11⟩
theorem rsame_self (f : Fr) (v v' : Value) (w : World) (h : FrAt w v f) (h' : FrAt w v' f) : Calls Tryd.prog 13 #[v, v'] w fun e w' => e = .returned (.bool true) ∧ Below w.heap.size w w' := by
  have := rsame_any f f v v' w h h'
  rw [show sameF f f = true by unfold sameF; simp] at this
  exact this
set_option maxHeartbeats 4000000 in
theorem lawSmall (w : World) (hT : Tabs w) (s : ByteArray) (a0 a1 : Nat) (ha0 : a0 < 256) (ha1 : a1 < 256) (hsm : s.size ≤ maxLen) :
    Calls Tryd.prog 3 #[.string s, .agg #[.int .u8 (a0 : Int), .int .u8 (a1 : Int)]] w fun e W' => e = .returned (.bool true) ∧ Below w.heap.size w W' := by
  unfold maxLen at hsm
  have HWR := hide (fun (V : World) (h : Below w.heap.size w V) => wrapped_any w V hT h)
  have hbx : Below w.heap.size w (w.alloc (.cells #[.int .u8 (a0 : Int), .int .u8 (a1 : Int)] 22)) := (Below.refl _ _).alloc (Nat.le_refl _) _
  by_cases hl : 1500 < s.size
  · have q1 : (1500 : Int) < (s.size : Int) := by omega
    go_enter Tryd.func3, Tryd.ntmps3
    go_wp2_with fail
    refine (HWR.out _ hbx).mono ?_; rintro e w1 ⟨rfl, hb1⟩
    have HF := hide (hbx.trans (hb1.mono hbx.size))
    clear hbx hb1
    go_wp2
    go_ret
    exact ⟨rfl, HF.out⟩
  have q1 : ¬ (1500 : Int) < (s.size : Int) := by omega
  obtain ⟨r0, hr0⟩ : ∃ r, a0 % 4 = r := ⟨_, rfl⟩
  obtain ⟨r1, hr1⟩ : ∃ r, a1 % 6 = r := ⟨_, rfl⟩
  have hr0b : r0 < 4 := by omega
  have hr1b : r1 < 6 := by omega
  have t0 : Int.tmod (a0 : Int) 4 = (r0 : Int) := by rw [Int.tmod_eq_emod_of_nonneg (by omega)]; omega
  have t1 : Int.tmod (a1 : Int) 6 = (r1 : Int) := by rw [Int.tmod_eq_emod_of_nonneg (by omega)]; omega
  have u0 : (a0 : Int) % 4 = (r0 : Int) := by omega
  have u1 : (a1 : Int) % 6 = (r1 : Int) := by omega
  obtain ⟨R, hR⟩ : ∃ r, 2 + r0 = r := ⟨_, rfl⟩
  obtain ⟨C, hC⟩ : ∃ r, 8 + r1 = r := ⟨_, rfl⟩
  have v0 : IntKind.i64.wrap (2 + (r0 : Int)) = (R : Int) := (Go.wrap_small _ (by omega) (by omega)).trans (by omega)
  have v1 : IntKind.i64.wrap (8 + (r1 : Int)) = (C : Int) := (Go.wrap_small _ (by omega) (by omega)).trans (by omega)
  have hm : mayB R C = true := by unfold mayB; simp; omega
  have hI := Inv.new hm
  have hst : StOk 0 (newM R C).p := .inl ⟨rfl, rfl⟩
  have HNW := hide (fun (V : World) (h : Below w.heap.size w V) => tnew_any R C hm w V hT h)
  have HNR := hide (fun (V : World) (h : Below w.heap.size w V) => rtnew_any R C hm w V h)
  have f1 := (write_facts hI s hst s.size).1
  have HW1 := hide (fun (V : World) (z g cap : Nat) (H : TmB w V z g cap (newM R C)) => twrite_any (newM R C) H hT hI s (by omega) 0 (by omega) hst (by show (0 : Nat) ≤ _; omega))
  have HW2 := hide (fun (V : World) (z g cap : Nat) (H : TrB w V z g cap (newM R C)) => rtwrite_any (newM R C) H hI s (by omega) 0 (by omega) hst (by show (0 : Nat) ≤ _; omega))
  have hn1 := fun (t : Tm) (h : Inv t) => (show 0 < t.cs.length ∧ t.cs.length ≤ 20000 from by
    rw [h.hL]
    exact ⟨Nat.mul_pos (by have := h.hR; omega) (by have := h.hC; omega), Nat.le_trans (Nat.mul_le_mul h.hR.2 h.hC.2) (by decide)⟩)
  have HF1 := hide (fun (V : World) (z g cap : Nat) (H : TmB w V z g cap (writeM (newM R C) s)) => tframe_any _ H (hn1 _ f1).1 (hn1 _ f1).2)
  have HBE := hide (fun (V : World) (z g cap : Nat) (H : TmB w V z g cap (writeM (newM R C) s)) => tbells_any _ H)
  obtain ⟨tA, htA⟩ : ∃ t, writeM (newM R C) s = t := ⟨_, rfl⟩
  rw [htA] at HW1 HF1 HW2 HBE
  obtain ⟨t0_, ht0_⟩ : ∃ t, newM R C = t := ⟨_, rfl⟩
  rw [ht0_] at HNW HW1 HW2 HNR
  clear f1 hn1 htA ht0_
  obtain ⟨Ra, Ca, cs, row, col, p, sy, wt, bl⟩ := tA
  obtain ⟨n, hn⟩ : ∃ n, cs.length = n := ⟨_, rfl⟩
  have HN := hide hn
  clear hn
  have HBX := hide hbx
  have HBK := hide (Blk.new w 22 [.int .u8 (a0 : Int), .int .u8 (a1 : Int)])
  rw [show [Value.int .u8 (a0 : Int), .int .u8 (a1 : Int)].toArray = #[.int .u8 (a0 : Int), .int .u8 (a1 : Int)] from rfl] at HBK
  obtain ⟨y, hy⟩ : ∃ q, w.heap.size = q := ⟨_, rfl⟩
  obtain ⟨W0, hW0⟩ : ∃ V, w.alloc (.cells #[.int .u8 (a0 : Int), .int .u8 (a1 : Int)] 22) = V := ⟨_, rfl⟩
  rw [hW0] at HBX HBK
  rw [hy] at HBK
  have y0 := HBK.out.cell (i := 0) rfl
  have y1 := HBK.out.cell (i := 1) rfl
  have HY := hide hy
  clear hbx hr0 hr1 hR hC hI hst hm hl hT
  go_enter Tryd.func3, Tryd.ntmps3
  go_wp2_with fail
  (try rw [hW0])
  (try rw [hy])
  refine (HNW.out _ HBX.out).mono ?_; rintro e w2 ⟨za, ga, ca, rfl, A2, hb2, hz2, hg2⟩
  have HB2 := hide (HBX.out.trans (hb2.mono HBX.out.size))
  replace HBK := hide (HBK.out.below hb2)
  have A2 := hide A2
  clear hb2 hz2 hg2 y0 y1 hW0 hy
  have y0 := HBK.out.cell (i := 0) rfl
  have y1 := HBK.out.cell (i := 1) rfl
  go_wp2_with fail
  refine (HNR.out _ HB2.out).mono ?_; rintro e w3 ⟨zb, gb, cb, rfl, B3, hb3, hz3, hg3⟩
  have HB3 := hide (HB2.out.trans (hb3.mono HB2.out.size))
  have A3 := hide (A2.out.low hb3)
  have n1 : zb ≠ za := by have := A2.out.b.lt; omega
  have n2 : zb ≠ ga := by have := A2.out.own.ltG; omega
  have n3 : gb ≠ za := by have := A2.out.b.lt; omega
  have n4 : gb ≠ ga := by have := A2.out.own.ltG; omega
  have B3 := hide B3
  clear hb3 hz3 hg3 A2 y0 y1 HBK
  go_wp2_with fail
  refine (HW1.out _ za ga ca A3.out).mono ?_; rintro e w4 ⟨rfl, A4, k4⟩
  have HB4 := hide (k4.belowB A3.out.hB A3.out.hG HB3.out A3.out.sz)
  have B4 := hide (B3.out.keep k4 n1 n2 n3 n4 A3.out.hB A3.out.hG)
  have A4 := hide A4
  clear k4 A3 B3
  go_wp2_with fail
  refine (HW2.out _ zb gb cb B4.out).mono ?_; rintro e w5 ⟨rfl, g5, cb5, B5, k5, hg5⟩
  have HB5 := hide (k5.belowB B4.out.hB B4.out.hG HB4.out B4.out.sz)
  have A5 := hide (A4.out.keep k5 n1.symm n3.symm n2.symm n4.symm B4.out.hB B4.out.hG)
  have B5 := hide B5
  clear k5 A4 B4 hg5 n1 n2 n3 n4
  go_wp2_with fail
  have AD := hide (A5.out.low (Below.refl _ _).drew)
  have BD := hide (B5.out.low (Below.refl _ _).drew)
  have HBD := hide HB5.out.drew
  have x5 := BD.out.rds HN.out
  have bf := fun i => BD.out.b.frozen i
  clear A5 B5
  refine wp_region_held_drew (S := (fun V => V.cell? ⟨zb, 0, none⟩ = some (.int .i64 (Ra : Int)) ∧ V.cell? ⟨zb, 1, none⟩ = some (.int .i64 (Ca : Int)) ∧ V.cell? ⟨zb, 2, none⟩ = some (.slice (some ⟨g5, 0, none⟩) n cb5) ∧ V.cell? ⟨zb, 3, none⟩ = some (.int .i64 (row : Int)) ∧ V.cell? ⟨zb, 4, none⟩ = some (.int .i64 (col : Int)) ∧ V.cell? ⟨zb, 11, none⟩ = some (.int .i64 (bl : Int)))) (by kernel_rfl) ?_ (fun hHeld => ?_)
  · exact x5
  refine wpAnyH_at (i := 0) (v := ?vls0) (d := 53) rfl rfl (by kernel_rfl) (by kernel_rfl) (by kernel_rfl) (fun _ _ _ h => h) (Or.inl ⟨by rfl, fun w' hSw => ?hyls0⟩) (by assumption) ?restls0
  case hyls0 =>
    (try dsimp only at hSw)
    go_simp
    (try with_reducible rfl)
  (try simp only [Act.put, List.setIfInBounds_toArray, List.set_cons_zero, List.set_cons_succ])
  refine wpAnyH_at (i := 2) (v := ?vls2) (d := 55) rfl rfl (by kernel_rfl) (by kernel_rfl) (by kernel_rfl) (fun _ _ _ h => h) (Or.inl ⟨by rfl, fun w' hSw => ?hyls2⟩) (by assumption) ?restls2
  case hyls2 =>
    (try dsimp only at hSw)
    go_simp
    (try with_reducible rfl)
  (try simp only [Act.put, List.setIfInBounds_toArray, List.set_cons_zero, List.set_cons_succ])
  refine wpAnyH_at (i := 3) (v := ?vls3) (d := 56) rfl rfl (by kernel_rfl) (by kernel_rfl) (by kernel_rfl) (fun _ _ _ h => h) (Or.inl ⟨by rfl, fun w' hSw => ?hyls3⟩) (by assumption) ?restls3
  case hyls3 =>
    (try dsimp only at hSw)
    go_simp
    (try with_reducible rfl)
  (try simp only [Act.put, List.setIfInBounds_toArray, List.set_cons_zero, List.set_cons_succ])
  refine wpAnyH_at (i := 4) (v := ?vls4) (d := 57) rfl rfl (by kernel_rfl) (by kernel_rfl) (by kernel_rfl) (fun _ _ _ h => h) (Or.inl ⟨by rfl, fun w' hSw => ?hyls4⟩) (by assumption) ?restls4
  case hyls4 =>
    (try dsimp only at hSw)
    go_simp
    (try with_reducible rfl)
  (try simp only [Act.put, List.setIfInBounds_toArray, List.set_cons_zero, List.set_cons_succ])
  refine wpAnyH_at (i := 5) (v := ?vls5) (d := 58) rfl rfl (by kernel_rfl) (by kernel_rfl) (by kernel_rfl) (fun _ _ _ h => h) (Or.inl ⟨by rfl, fun w' hSw => ?hyls5⟩) (by assumption) ?restls5
  case hyls5 =>
    (try dsimp only at hSw)
    go_simp
    (try with_reducible rfl)
  (try simp only [Act.put, List.setIfInBounds_toArray, List.set_cons_zero, List.set_cons_succ])
  refine wpAnyH_ready (rs := [1]) (by kernel_rfl) (by simp) ?_
  refine AllReadyH.cons rfl (fun K' hK' => ?_) AllReadyH.nil
  go_simp
  refine (HF1.out _ za ga ca AD.out).mono ?_; rintro e w6 ⟨v6, rfl, hf6, hb6⟩
  have HB6 := hide (HBD.out.trans (hb6.mono HBD.out.size))
  have A6 := hide (AD.out.low hb6)
  have B6 := hide (BD.out.low hb6)
  have F6 := hide hf6.at
  have x6 := B6.out.rds HN.out
  clear hf6 hb6 AD BD x5
  go_wp2_with fail
  refine hK'.out _ _ ?_ (fun hHeld => ?_)
  · exact x6
  clear hK' K'
  (try simp only [Act.put, List.getElem_toArray, List.getElem_cons_succ, List.getElem_cons_zero, List.setIfInBounds_toArray, List.set_cons_zero, List.set_cons_succ])
  refine wpAnyH_ready (rs := [6]) (by kernel_rfl) (by simp) ?_
  refine AllReadyH.cons rfl (fun K' hK' => ?_) AllReadyH.nil
  go_simp
  refine (rsame_self _ _ _ _ F6.out (B6.out.fr HN.out)).mono ?_; rintro e w7 ⟨rfl, hb7⟩
  have HB7 := hide (HB6.out.trans (hb7.mono HB6.out.size))
  have A7 := hide (A6.out.low hb7)
  have B7 := hide (B6.out.low hb7)
  have x7 := B7.out.rds HN.out
  clear hb7 A6 B6 x6 F6
  go_wp2_with fail
  refine hK'.out _ _ ?_ (fun hHeld => ?_)
  · exact x7
  clear hK' K'
  (try simp only [Act.put, List.getElem_toArray, List.getElem_cons_succ, List.getElem_cons_zero, List.setIfInBounds_toArray, List.set_cons_zero, List.set_cons_succ])
  refine wpAnyH_at (i := 7) (v := ?vls7) (d := 60) rfl rfl (by kernel_rfl) (by kernel_rfl) (by kernel_rfl) (fun _ _ _ h => h) (Or.inl ⟨by rfl, fun w' hSw => ?hyls7⟩) (by assumption) ?restls7
  case hyls7 =>
    (try dsimp only at hSw)
    go_simp
    (try with_reducible rfl)
  (try simp only [Act.put, List.setIfInBounds_toArray, List.set_cons_zero, List.set_cons_succ])
  refine wpAnyH_at (i := 8) (v := ?vls8) (d := 61) rfl rfl (by kernel_rfl) (by kernel_rfl) (by kernel_rfl) (fun _ _ _ h => h) (Or.inl ⟨by rfl, fun w' hSw => ?hyls8⟩) (by assumption) ?restls8
  case hyls8 =>
    (try dsimp only at hSw)
    go_simp
    (try with_reducible rfl)
  (try simp only [Act.put, List.setIfInBounds_toArray, List.set_cons_zero, List.set_cons_succ])
  refine wpAnyH_at (i := 10) (v := ?vls10) (d := 63) rfl rfl (by kernel_rfl) (by kernel_rfl) (by kernel_rfl) (fun _ _ _ h => h) (Or.inl ⟨by rfl, fun w' hSw => ?hyls10⟩) (by assumption) ?restls10
  case hyls10 =>
    (try dsimp only at hSw)
    go_simp
    (try with_reducible rfl)
  (try simp only [Act.put, List.setIfInBounds_toArray, List.set_cons_zero, List.set_cons_succ])
  refine wpAnyH_at (i := 11) (v := ?vls11) (d := 64) rfl rfl (by kernel_rfl) (by kernel_rfl) (by kernel_rfl) (fun _ _ _ h => h) (Or.inl ⟨by rfl, fun w' hSw => ?hyls11⟩) (by assumption) ?restls11
  case hyls11 =>
    (try dsimp only at hSw)
    go_simp
    (try with_reducible rfl)
  (try simp only [Act.put, List.setIfInBounds_toArray, List.set_cons_zero, List.set_cons_succ])
  refine wpAnyH_at (i := 12) (v := ?vls12) (d := 65) rfl rfl (by kernel_rfl) (by kernel_rfl) (by kernel_rfl) (fun _ _ _ h => h) (Or.inl ⟨by rfl, fun w' hSw => ?hyls12⟩) (by assumption) ?restls12
  case hyls12 =>
    (try dsimp only at hSw)
    go_simp
    (try with_reducible rfl)
  (try simp only [Act.put, List.setIfInBounds_toArray, List.set_cons_zero, List.set_cons_succ])
  refine wpAnyH_at (i := 13) (v := ?vls13) (d := 66) rfl rfl (by kernel_rfl) (by kernel_rfl) (by kernel_rfl) (fun _ _ _ h => h) (Or.inl ⟨by rfl, fun w' hSw => ?hyls13⟩) (by assumption) ?restls13
  case hyls13 =>
    (try dsimp only at hSw)
    go_simp
    (try with_reducible rfl)
  (try simp only [Act.put, List.setIfInBounds_toArray, List.set_cons_zero, List.set_cons_succ])
  refine wpAnyH_ready (rs := [9]) (by kernel_rfl) (by simp) ?_
  refine AllReadyH.cons rfl (fun K' hK' => ?_) AllReadyH.nil
  go_simp
  refine (HBE.out _ za ga ca A7.out).mono ?_; rintro e w8 ⟨rfl, rfl⟩
  go_wp2_with fail
  refine hK'.out _ _ ?_ (fun hHeld => ?_)
  · exact x7
  clear hK' K'
  (try simp only [Act.put, List.getElem_toArray, List.getElem_cons_succ, List.getElem_cons_zero, List.setIfInBounds_toArray, List.set_cons_zero, List.set_cons_succ])
  refine wpAnyH_at (i := 14) (v := ?vls14) (d := 67) rfl rfl (by kernel_rfl) (by kernel_rfl) (by kernel_rfl) (fun _ _ _ h => h) (Or.inl ⟨by rfl, fun w' hSw => ?hyls14⟩) (by assumption) ?restls14
  case hyls14 =>
    (try dsimp only at hSw)
    go_simp
    (try with_reducible rfl)
  (try simp only [Act.put, List.setIfInBounds_toArray, List.set_cons_zero, List.set_cons_succ])
  refine wpAnyH_at (i := 15) (v := ?vls15) (d := 68) rfl rfl (by kernel_rfl) (by kernel_rfl) (by kernel_rfl) (fun _ _ _ h => h) (Or.inl ⟨by rfl, fun w' hSw => ?hyls15⟩) (by assumption) ?restls15
  case hyls15 =>
    (try dsimp only at hSw)
    go_simp
    (try with_reducible rfl)
  (try simp only [Act.put, List.setIfInBounds_toArray, List.set_cons_zero, List.set_cons_succ])
  refine wpAnyH_at (i := 16) (v := ?vls16) (d := 69) rfl rfl (by kernel_rfl) (by kernel_rfl) (by kernel_rfl) (fun _ _ _ h => h) (Or.inl ⟨by rfl, fun w' hSw => ?hyls16⟩) (by assumption) ?restls16
  case hyls16 =>
    (try dsimp only at hSw)
    go_simp
    (try with_reducible rfl)
  (try simp only [Act.put, List.setIfInBounds_toArray, List.set_cons_zero, List.set_cons_succ])
  refine wpAnyH_ready (rs := [17]) (by kernel_rfl) (by simp) ?_
  refine AllReadyH.cons rfl (fun K' hK' => ?_) AllReadyH.nil
  go_simp
  refine (HWR.out _ HB7.out).mono ?_; rintro e w9 ⟨rfl, hb9⟩
  have HB9 := hide (HB7.out.trans (hb9.mono HB7.out.size))
  have B9 := hide (B7.out.low hb9)
  have x9 := B9.out.rds HN.out
  clear hb9
  go_wp2_with fail
  refine hK'.out _ _ ?_ (fun hHeld => ?_)
  · exact x9
  clear hK' K'
  (try simp only [Act.put, List.getElem_toArray, List.getElem_cons_succ, List.getElem_cons_zero, List.setIfInBounds_toArray, List.set_cons_zero, List.set_cons_succ])
  refine wpAnyH_at (i := 18) (v := ?vls18) (d := 71) rfl rfl (by kernel_rfl) (by kernel_rfl) (by kernel_rfl) (fun _ _ _ h => h) (Or.inl ⟨by rfl, fun w' hSw => ?hyls18⟩) (by assumption) ?restls18
  case hyls18 =>
    (try dsimp only at hSw)
    go_simp
    (try with_reducible rfl)
  (try simp only [Act.put, List.setIfInBounds_toArray, List.set_cons_zero, List.set_cons_succ])
  refine wpAnyH_at (i := 19) (v := ?vls19) (d := 4) rfl rfl (by kernel_rfl) (by kernel_rfl) (by kernel_rfl) (fun _ _ _ h => h) (Or.inl ⟨by rfl, fun w' hSw => ?hyls19⟩) (by assumption) ?restls19
  case hyls19 =>
    (try dsimp only at hSw)
    go_simp
    (try with_reducible rfl)
  (try simp only [Act.put, List.setIfInBounds_toArray, List.set_cons_zero, List.set_cons_succ])
  refine wpAnyH_done (by kernel_rfl) ?_ _
  go_wp2
  go_ret
  exact ⟨rfl, HB9.out⟩
end Go.Proofs.YtmemdhmjhckmaaaDoor
