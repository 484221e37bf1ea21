/- RegsParse: the walk. -/
import Derived.Test.YtfamoikmfbpigaaDoorZ7
namespace Go.Proofs.YtfamoikmfbpigaaDoor
open Go.RowKit

/-- What the law's two boxes hold. -/
structure VlS (r : Nat) (w W : World) (z1 z2 : Nat) (n : Nd) (cs ds : List Value) : Prop where
  b1 : Blk W z1 27 cs
  b2 : Blk W z2 33 ds
  n1 : NdX (fun b => w.heap.size ≤ b) W n cs
  n2 : NdX (fun b => w.heap.size ≤ b) W n ds
  sg : SGr r W
  below : Below w.heap.size w W
theorem VlS.low {r : Nat} {w W V : World} {z1 z2 : Nat} {n : Nd} {cs ds : List Value} (h : VlS r w W z1 z2 n cs ds) (hb : Below W.heap.size W V) : VlS r w V z1 z2 n cs ds :=
  ⟨h.b1.below hb, h.b2.below hb, h.n1.low hb, h.n2.low hb, h.sg.below hb, h.below.trans (hb.mono h.below.size)⟩
theorem blk_c6 {W : World} {z : Nat} {T : TypeId} {k : Int} {x0 x1 x2 x3 : Nat} {v : Value} (h : Blk W z T (ndL k [x0, x1, x2, x3] v)) : W.cell? ⟨z, 0, none⟩ = some (.int .i64 k) ∧ W.cell? ⟨z, 1, none⟩ = some (.int .u64 (x0 : Int)) ∧ W.cell? ⟨z, 2, none⟩ = some (.int .u64 (x1 : Int)) ∧ W.cell? ⟨z, 3, none⟩ = some (.int .u64 (x2 : Int)) ∧ W.cell? ⟨z, 4, none⟩ = some (.int .u64 (x3 : Int)) ∧ W.cell? ⟨z, 5, none⟩ = some v :=
  ⟨h.cell (i := 0) rfl, h.cell (i := 1) rfl, h.cell (i := 2) rfl, h.cell (i := 3) rfl, h.cell (i := 4) rfl, h.cell (i := 5) rfl⟩
theorem sz_parse (s : ByteArray) : szN (parseP s).1 ≤ 401 := by
  rcases parse_ways s with h | ⟨-, h⟩
  · exact (parse_good s h).2.2.2.2
  · rw [h]; decide
theorem errno_bd (s : ByteArray) : (parseP s).2 ≤ 10 := by
  rcases parse_ways s with h | ⟨h | h, -⟩ <;> omega
theorem VlS.c12 {r : Nat} {w W : World} {z1 z2 : Nat} {n : Nd} {k k' : Int} {x0 x1 x2 x3 y0 y1 y2 y3 : Nat} {v v' : Value} (h : VlS r w W z1 z2 n (ndL k [x0, x1, x2, x3] v) (ndL k' [y0, y1, y2, y3] v')) :
    (W.cell? ⟨z1, 0, none⟩ = some (.int .i64 k) ∧ W.cell? ⟨z1, 1, none⟩ = some (.int .u64 (x0 : Int)) ∧ W.cell? ⟨z1, 2, none⟩ = some (.int .u64 (x1 : Int)) ∧ W.cell? ⟨z1, 3, none⟩ = some (.int .u64 (x2 : Int)) ∧ W.cell? ⟨z1, 4, none⟩ = some (.int .u64 (x3 : Int)) ∧ W.cell? ⟨z1, 5, none⟩ = some v) ∧
    (W.cell? ⟨z2, 0, none⟩ = some (.int .i64 k') ∧ W.cell? ⟨z2, 1, none⟩ = some (.int .u64 (y0 : Int)) ∧ W.cell? ⟨z2, 2, none⟩ = some (.int .u64 (y1 : Int)) ∧ W.cell? ⟨z2, 3, none⟩ = some (.int .u64 (y2 : Int)) ∧ W.cell? ⟨z2, 4, none⟩ = some (.int .u64 (y3 : Int)) ∧ W.cell? ⟨z2, 5, none⟩ = some v') := ⟨blk_c6 h.b1, blk_c6 h.b2⟩
set_option maxHeartbeats 4000000 in
set_option maxRecDepth 100000 in
theorem lawParse (r : Nat) (s : ByteArray) (w : World) (hM : s.size ≤ maxLen) (hS : SGr r w) :
    Calls Tryd.prog 3 #[.string s] w fun e W' => e = .returned (.bool true) ∧ Below w.heap.size w W' := by
  unfold maxLen at hM
  by_cases hl : 400 < s.size
  · have q1 : (400 : Int) < (s.size : Int) := by omega
    have HR := hide (ruled_any r w hS)
    clear hS
    go_enter Tryd.func3, Tryd.ntmps3
    go_wp2_with fail
    refine HR.out.mono ?_; rintro e w1 ⟨rfl, hb1⟩
    go_wp2
    go_ret
    exact ⟨rfl, hb1⟩
  · have q1 : ¬ (400 : Int) < (s.size : Int) := by omega
    have HP := hide (parse_any r s w (by omega) hS)
    have HR := hide (fun W => rparse_any s W (by omega))
    have HSZ := hide (sz_parse s)
    obtain ⟨n, hn0⟩ : ∃ n, (parseP s).1 = n := ⟨_, rfl⟩
    obtain ⟨e0, he0⟩ : ∃ e, (parseP s).2 = e := ⟨_, rfl⟩
    rw [hn0] at HP HR HSZ
    rw [he0] at HP HR
    have HS0 := hide hS
    clear hn0 he0 hS
    go_enter Tryd.func3, Tryd.ntmps3
    go_wp2_with fail
    refine HP.out.mono ?_; rintro e w1 ⟨cs, he, hn1, hb1⟩
    have hx := NdX.of _ _ hn1
    obtain ⟨k, x0, x1, x2, x3, A, m, c, rfl, -, -⟩ := hx.form
    have he : e = .returned (.tuple #[.agg #[.int .i64 k, .int .u64 (x0 : Int), .int .u64 (x1 : Int), .int .u64 (x2 : Int), .int .u64 (x3 : Int), .slice A m c], .int .i64 (e0 : Int)]) := he
    subst he
    have HO := hide (box_any hx hb1)
    have HS1 := hide (HS0.out.below HO.out.2.1)
    rw [show ((ndL k [x0, x1, x2, x3] (.slice A m c))).toArray = #[.int .i64 k, .int .u64 (x0 : Int), .int .u64 (x1 : Int), .int .u64 (x2 : Int), .int .u64 (x3 : Int), .slice A m c] from rfl] at HO HS1
    clear hx hn1 hb1 HP HS0
    go_wp2_with fail
    obtain ⟨z1, hz1⟩ : ∃ q, w1.heap.size = q := ⟨_, rfl⟩
    obtain ⟨w2, hw2⟩ : ∃ W, w1.alloc (.cells #[.int .i64 k, .int .u64 (x0 : Int), .int .u64 (x1 : Int), .int .u64 (x2 : Int), .int .u64 (x3 : Int), .slice A m c] 27) = W := ⟨_, rfl⟩
    rw [hw2] at HS1
    rw [hw2, hz1] at HO
    rw [hw2, hz1]
    clear hw2 hz1
    refine (HR.out _).mono ?_; rintro e w3 ⟨ds, he, hn3, hb3⟩
    have hx := NdX.of _ _ hn3
    obtain ⟨k', y0, y1, y2, y3, A', m', c', rfl, -, -⟩ := hx.form
    have he : e = .returned (.tuple #[.agg #[.int .i64 k', .int .u64 (y0 : Int), .int .u64 (y1 : Int), .int .u64 (y2 : Int), .int .u64 (y3 : Int), .slice A' m' c'], .int .i64 (e0 : Int)]) := he
    subst he
    have hbl : Below w3.heap.size w3 (w3.alloc (.cells (ndL k' [y0, y1, y2, y3] (.slice A' m' c')).toArray 33)) := (Below.refl _ _).alloc (Nat.le_refl _) _
    have HV0 := hide (show VlS r w (w3.alloc (.cells (ndL k' [y0, y1, y2, y3] (.slice A' m' c')).toArray 33)) z1 w3.heap.size n (ndL k [x0, x1, x2, x3] (.slice A m c)) (ndL k' [y0, y1, y2, y3] (.slice A' m' c')) from
      ⟨(HO.out.2.2.below hb3).below hbl, Blk.new _ _ _, (HO.out.1.low hb3).low hbl, NdX.keep (fun b hb _ => Nat.le_trans HO.out.2.1.size hb) (Nat.le_refl _) (fun _ _ _ _ h => h) _ _ (hx.low hbl), (HS1.out.below hb3).below hbl, HO.out.2.1.trans ((hb3.trans (hbl.mono hb3.size)).mono HO.out.2.1.size)⟩)
    rw [show ((ndL k' [y0, y1, y2, y3] (.slice A' m' c'))).toArray = #[.int .i64 k', .int .u64 (y0 : Int), .int .u64 (y1 : Int), .int .u64 (y2 : Int), .int .u64 (y3 : Int), .slice A' m' c'] from rfl] at HV0
    clear hx hn3 hb3 hbl HR HO HS1
    go_wp2_with fail
    obtain ⟨z2, hz2⟩ : ∃ q, w3.heap.size = q := ⟨_, rfl⟩
    obtain ⟨w4, hw4⟩ : ∃ W, w3.alloc (.cells #[.int .i64 k', .int .u64 (y0 : Int), .int .u64 (y1 : Int), .int .u64 (y2 : Int), .int .u64 (y3 : Int), .slice A' m' c'] 33) = W := ⟨_, rfl⟩
    rw [hw4, hz2] at HV0
    rw [hw4, hz2]
    clear hw4 hz2
    have HV := hide (HV0.out.low ((Below.refl _ _).drew))
    clear HV0
    refine wp_region_held_drew (S := (fun W => (W.cell? ⟨z1, 0, none⟩ = some (.int .i64 k) ∧ W.cell? ⟨z1, 1, none⟩ = some (.int .u64 (x0 : Int)) ∧ W.cell? ⟨z1, 2, none⟩ = some (.int .u64 (x1 : Int)) ∧ W.cell? ⟨z1, 3, none⟩ = some (.int .u64 (x2 : Int)) ∧ W.cell? ⟨z1, 4, none⟩ = some (.int .u64 (x3 : Int)) ∧ W.cell? ⟨z1, 5, none⟩ = some (.slice A m c)) ∧ (W.cell? ⟨z2, 0, none⟩ = some (.int .i64 k') ∧ W.cell? ⟨z2, 1, none⟩ = some (.int .u64 (y0 : Int)) ∧ W.cell? ⟨z2, 2, none⟩ = some (.int .u64 (y1 : Int)) ∧ W.cell? ⟨z2, 3, none⟩ = some (.int .u64 (y2 : Int)) ∧ W.cell? ⟨z2, 4, none⟩ = some (.int .u64 (y3 : Int)) ∧ W.cell? ⟨z2, 5, none⟩ = some (.slice A' m' c')))) (by kernel_rfl) ?_ (fun hHeld => ?_)
    · exact HV.out.c12
    refine wpAnyH_at (i := 0) (v := ?vp1_0) (d := 21) rfl rfl (by kernel_rfl) (by kernel_rfl) (by kernel_rfl) (fun _ _ _ h => h) (Or.inl ⟨by rfl, fun w' hSw => ?hyp1_0⟩) (by assumption) ?restp1_0
    case hyp1_0 =>
      (try dsimp only at hSw)
      go_simp
      (try with_reducible rfl)
    (try simp only [Act.put, List.setIfInBounds_toArray, List.set_cons_zero, List.set_cons_succ])
    refine wpAnyH_at (i := 1) (v := ?vp2_1) (d := 22) rfl rfl (by kernel_rfl) (by kernel_rfl) (by kernel_rfl) (fun _ _ _ h => h) (Or.inl ⟨by rfl, fun w' hSw => ?hyp2_1⟩) (by assumption) ?restp2_1
    case hyp2_1 =>
      (try dsimp only at hSw)
      go_simp
      (try with_reducible rfl)
    (try simp only [Act.put, List.setIfInBounds_toArray, List.set_cons_zero, List.set_cons_succ])
    refine wpAnyH_at (i := 2) (v := ?vp3_2) (d := 23) rfl rfl (by kernel_rfl) (by kernel_rfl) (by kernel_rfl) (fun _ _ _ h => h) (Or.inl ⟨by rfl, fun w' hSw => ?hyp3_2⟩) (by assumption) ?restp3_2
    case hyp3_2 =>
      (try dsimp only at hSw)
      go_simp
      (try with_reducible rfl)
    (try simp only [Act.put, List.setIfInBounds_toArray, List.set_cons_zero, List.set_cons_succ])
    refine wpAnyH_at (i := 3) (v := ?vp4_3) (d := 24) rfl rfl (by kernel_rfl) (by kernel_rfl) (by kernel_rfl) (fun _ _ _ h => h) (Or.inl ⟨by rfl, fun w' hSw => ?hyp4_3⟩) (by assumption) ?restp4_3
    case hyp4_3 =>
      (try dsimp only at hSw)
      go_simp
      (try with_reducible rfl)
    (try simp only [Act.put, List.setIfInBounds_toArray, List.set_cons_zero, List.set_cons_succ])
    refine wpAnyH_at (i := 4) (v := ?vp5_4) (d := 25) rfl rfl (by kernel_rfl) (by kernel_rfl) (by kernel_rfl) (fun _ _ _ h => h) (Or.inl ⟨by rfl, fun w' hSw => ?hyp5_4⟩) (by assumption) ?restp5_4
    case hyp5_4 =>
      (try dsimp only at hSw)
      go_simp
      (try with_reducible rfl)
    (try simp only [Act.put, List.setIfInBounds_toArray, List.set_cons_zero, List.set_cons_succ])
    refine wpAnyH_at (i := 6) (v := ?vp6_6) (d := 27) rfl rfl (by kernel_rfl) (by kernel_rfl) (by kernel_rfl) (fun _ _ _ h => h) (Or.inl ⟨by rfl, fun w' hSw => ?hyp6_6⟩) (by assumption) ?restp6_6
    case hyp6_6 =>
      (try dsimp only at hSw)
      go_simp
      (try with_reducible rfl)
    (try simp only [Act.put, List.setIfInBounds_toArray, List.set_cons_zero, List.set_cons_succ])
    refine wpAnyH_ready (rs := [5]) (by kernel_rfl) (by simp) ?_
    refine AllReadyH.cons rfl (fun K' hK' => ?_) AllReadyH.nil
    go_simp
    refine (ref_any (szN n + 1) n _ _ _ (by omega) (by have := HSZ.out; omega) HV.out.n1).mono ?_; rintro e w5 ⟨v5, rfl, ⟨cy, rfl, hn5⟩, hb5⟩
    have HV5 := hide (HV.out.low hb5)
    have hx5 := NdX.of _ _ hn5
    obtain ⟨k5, u0, u1, u2, u3, A5, m5, c5, rfl, -, -⟩ := hx5.form
    have HX5 := hide hx5
    clear hn5 hb5 hx5 HV
    go_wp2_with fail
    refine hK'.out _ _ ?_ (fun hHeld => ?_)
    · exact HV5.out.c12
    clear hK' K'
    (try simp only [Act.put, List.getElem_toArray, List.getElem_cons_succ, List.getElem_cons_zero, List.setIfInBounds_toArray, List.set_cons_zero, List.set_cons_succ])
    refine wpAnyH_ready (rs := [7]) (by kernel_rfl) (by simp) ?_
    refine AllReadyH.cons rfl (fun K' hK' => ?_) AllReadyH.nil
    go_simp
    refine (rsame_any (szN n + 1) n n (ndL k5 [u0, u1, u2, u3] (.slice A5 m5 c5)) _ _ _ _ (by omega) HX5.out HV5.out.n2).mono ?_; rintro e w6 ⟨b6, rfl, hb, hb6⟩
    obtain rfl := hb.2 rfl
    have HV6 := hide (HV5.out.low hb6)
    clear hb6 hb HV5 HX5
    go_wp2_with fail
    refine hK'.out _ _ ?_ (fun hHeld => ?_)
    · exact HV6.out.c12
    clear hK' K'
    (try simp only [Act.put, List.getElem_toArray, List.getElem_cons_succ, List.getElem_cons_zero, List.setIfInBounds_toArray, List.set_cons_zero, List.set_cons_succ])
    refine wpAnyH_at (i := 8) (v := ?vp7_8) (d := 29) rfl rfl (by kernel_rfl) (by kernel_rfl) (by kernel_rfl) (fun _ _ _ h => h) (Or.inl ⟨by rfl, fun w' hSw => ?hyp7_8⟩) (by assumption) ?restp7_8
    case hyp7_8 =>
      (try dsimp only at hSw)
      go_simp
      (try with_reducible rfl)
    (try simp only [Act.put, List.setIfInBounds_toArray, List.set_cons_zero, List.set_cons_succ])
    refine wpAnyH_at (i := 9) (v := ?vp8_9) (d := 30) rfl rfl (by kernel_rfl) (by kernel_rfl) (by kernel_rfl) (fun _ _ _ h => h) (Or.inl ⟨by rfl, fun w' hSw => ?hyp8_9⟩) (by assumption) ?restp8_9
    case hyp8_9 =>
      (try dsimp only at hSw)
      go_simp
      (try with_reducible rfl)
    (try simp only [Act.put, List.setIfInBounds_toArray, List.set_cons_zero, List.set_cons_succ])
    refine wpAnyH_ready (rs := [10]) (by kernel_rfl) (by simp) ?_
    refine AllReadyH.cons rfl (fun K' hK' => ?_) AllReadyH.nil
    go_simp
    refine (ruled_any r _ HV6.out.sg).mono ?_; rintro e w7 ⟨rfl, hb7⟩
    have HV7 := hide (HV6.out.low hb7)
    clear hb7 HV6
    go_wp2_with fail
    refine hK'.out _ _ ?_ (fun hHeld => ?_)
    · exact HV7.out.c12
    clear hK' K'
    (try simp only [Act.put, List.getElem_toArray, List.getElem_cons_succ, List.getElem_cons_zero, List.setIfInBounds_toArray, List.set_cons_zero, List.set_cons_succ])
    refine wpAnyH_at (i := 11) (v := ?vp9_11) (d := 32) rfl rfl (by kernel_rfl) (by kernel_rfl) (by kernel_rfl) (fun _ _ _ h => h) (Or.inl ⟨by rfl, fun w' hSw => ?hyp9_11⟩) (by assumption) ?restp9_11
    case hyp9_11 =>
      (try dsimp only at hSw)
      go_simp
      (try with_reducible rfl)
    (try simp only [Act.put, List.setIfInBounds_toArray, List.set_cons_zero, List.set_cons_succ])
    refine wpAnyH_at (i := 12) (v := ?vp10_12) (d := 2) rfl rfl (by kernel_rfl) (by kernel_rfl) (by kernel_rfl) (fun _ _ _ h => h) (Or.inl ⟨by rfl, fun w' hSw => ?hyp10_12⟩) (by assumption) ?restp10_12
    case hyp10_12 =>
      (try dsimp only at hSw)
      go_simp
      (try with_reducible rfl)
    (try simp only [Act.put, List.setIfInBounds_toArray, List.set_cons_zero, List.set_cons_succ])
    refine wpAnyH_done (by kernel_rfl) ?_ _
    go_wp2
    go_ret
    exact ⟨rfl, HV7.out.below⟩
end Go.Proofs.YtfamoikmfbpigaaDoor
