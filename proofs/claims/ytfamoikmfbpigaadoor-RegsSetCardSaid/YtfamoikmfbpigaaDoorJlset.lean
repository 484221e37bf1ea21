/- RegsSet: the walk. -/
import Derived.Test.YtfamoikmfbpigaaDoorJsetp
import Derived.Test.YtfamoikmfbpigaaDoorJlnode
namespace Go.Proofs.YtfamoikmfbpigaaDoor
open Go.RowKit

theorem parse_set (r : Nat) (t : ByteArray) (S : List Nat) (w : World) (ht : parseP t = (.mk 1 S [], 0)) (hl : t.size ≤ 200) (hS : SGr r w) :
    Calls Tryd.prog 10 #[.string t] w fun e w' => ∃ (x0 x1 x2 x3 : Nat) (A : Option Addr) (cap : Nat), S = [x0, x1, x2, x3] ∧ W64 [x0, x1, x2, x3] ∧ e = .returned (.tuple #[.agg #[.int .i64 1, .int .u64 (x0 : Int), .int .u64 (x1 : Int), .int .u64 (x2 : Int), .int .u64 (x3 : Int), .slice A 0 cap], .int .i64 0]) ∧ Below w.heap.size w w' := by
  refine (parse_any r t w (by omega) hS).mono ?_
  rintro e w' ⟨cs, rfl, hn, hb⟩
  rw [ht] at hn ⊢
  obtain ⟨x0, x1, x2, x3, A, cap, e1, e2, e3, -⟩ := (NdX.of _ _ hn).parts
  subst e2
  exact ⟨x0, x1, x2, x3, A, cap, e1, e3, rfl, hb⟩
theorem le_of_sz {t : ByteArray} {n : Nat} (h : t.size = n) (h2 : n ≤ 200) : t.size ≤ 200 := by rw [h]; exact h2
/-- A box with a set. -/
def SBox (W : World) (y x0 x1 x2 x3 : Nat) (v : Value) : Prop := Blk W y 27 (ndL 1 [x0, x1, x2, x3] v)
def StW (r : Nat) (w W : World) : Prop := SGr r W ∧ Below w.heap.size w W
theorem StW.low {r : Nat} {w W V : World} (h : StW r w W) (hb : Below W.heap.size W V) : StW r w V := ⟨h.1.below hb, h.2.trans (hb.mono h.2.size)⟩
theorem box_new (W : World) (x0 x1 x2 x3 : Nat) (v : Value) : SBox (W.alloc (.cells #[.int .i64 1, .int .u64 (x0 : Int), .int .u64 (x1 : Int), .int .u64 (x2 : Int), .int .u64 (x3 : Int), v] 27)) W.heap.size x0 x1 x2 x3 v ∧ Below W.heap.size W (W.alloc (.cells #[.int .i64 1, .int .u64 (x0 : Int), .int .u64 (x1 : Int), .int .u64 (x2 : Int), .int .u64 (x3 : Int), v] 27)) :=
  ⟨Blk.new _ _ _, (Below.refl _ _).alloc (Nat.le_refl _) _⟩
theorem sx (h : Nat) (l : Nat) (hh : h < 16) (hl : l < 16) : (⟨#[92, 120]⟩ : ByteArray) ++ hexL.extract h (h + 1) ++ hexL.extract l (l + 1) = ⟨[92, 120, hexB h, hexB l].toArray⟩ := hex_join hexL rfl h l hh hl
theorem bl_app (p q : List UInt8) : bl p ++ bl q = bl (p ++ q) := toArr_app p q
theorem bq (k a : Nat) : ((k : Int) == (a : Int)) = decide (k = a) := by
  rw [Bool.eq_iff_iff, beq_iff_eq, decide_eq_true_eq]; omega
set_option maxHeartbeats 2000000 in
set_option maxRecDepth 100000 in
theorem lawSet1 (r a0 b0 a b : Nat) (w : World) (hmin : min (a0 : Int) (b0 : Int) = (a : Int)) (hmax : max (a0 : Int) (b0 : Int) = (b : Int)) (hab : a ≤ b) (hb : b < 256) (hS : SGr r w) :
    Calls Tryd.prog 4 #[.int .u8 (a0 : Int), .int .u8 (b0 : Int)] w fun e W' => e = .returned (.bool true) ∧ Below w.heap.size w W' := by
  have ha : a < 256 := by omega
  obtain ⟨X, hX⟩ : ∃ X : ByteArray, bl (hxT a) = X := ⟨_, rfl⟩
  obtain ⟨Y, hY⟩ : ∃ X : ByteArray, bl (hxT b) = X := ⟨_, rfl⟩
  have zX : X.size = 4 := by rw [← hX]; rfl
  have zY : Y.size = 4 := by rw [← hY]; rfl
  have P1 := hide (show parseP X = (.mk 1 (spanS noSet a 1) [], 0) from by rw [← hX]; exact parse_one a ha)
  have P2 := hide (show parseP (⟨#[91]⟩ ++ X ++ Y ++ ⟨#[93]⟩) = (.mk 1 (spanS (spanS noSet a 1) b 1) [], 0) from by
    rw [← hX, ← hY, show (⟨#[91]⟩ : ByteArray) = bl [91] from rfl, show (⟨#[93]⟩ : ByteArray) = bl [93] from rfl, bl_app, bl_app, bl_app]
    have := parse_two a b ha hb
    rwa [show [91] ++ hxT a ++ hxT b ++ [93] = 91 :: (hxT a ++ (hxT b ++ [93])) by simp])
  have P3 := hide (show parseP (⟨#[91]⟩ ++ X ++ ⟨#[45]⟩ ++ Y ++ ⟨#[93]⟩) = (.mk 1 (spanS noSet a (b + 1 - a)) [], 0) from by
    rw [← hX, ← hY, show (⟨#[91]⟩ : ByteArray) = bl [91] from rfl, show (⟨#[45]⟩ : ByteArray) = bl [45] from rfl, show (⟨#[93]⟩ : ByteArray) = bl [93] from rfl, bl_app, bl_app, bl_app, bl_app]
    have := parse_all2 a b ha hb hab
    rwa [show [91] ++ hxT a ++ [45] ++ hxT b ++ [93] = 91 :: (hxT a ++ 45 :: (hxT b ++ [93])) by simp])
  have P4 := hide (show parseP (⟨#[91, 94]⟩ ++ X ++ ⟨#[45]⟩ ++ Y ++ ⟨#[93]⟩) = (.mk 1 (cmpJ (spanS noSet a (b + 1 - a)) 4) [], 0) from by
    rw [← hX, ← hY, show (⟨#[91, 94]⟩ : ByteArray) = bl [91, 94] from rfl, show (⟨#[45]⟩ : ByteArray) = bl [45] from rfl, show (⟨#[93]⟩ : ByteArray) = bl [93] from rfl, bl_app, bl_app, bl_app, bl_app]
    have := parse_not a b ha hb hab
    rwa [show [91, 94] ++ hxT a ++ [45] ++ hxT b ++ [93] = 91 :: 94 :: (hxT a ++ 45 :: (hxT b ++ [93])) by simp])
  have HV1 := hide (fun c (hc : c < 256) => has_one a c ha hc)
  have HV2 := hide (fun c (hc : c < 256) => has_two a b c ha hb hc)
  have HV3 := hide (fun c (hc : c < 256) => has_all a b c hb hab hc)
  have HV4 := hide (fun c (hc : c < 256) => (hasS_cmp (spanS_w noSet_w a (b + 1 - a)) c hc).trans (congrArg _ (has_all a b c hb hab hc)))
  have H0 := hide (show StW r w w from ⟨hS, Below.refl _ _⟩)
  have z91 : (⟨#[91]⟩ : ByteArray).size = 1 := rfl
  have z93 : (⟨#[93]⟩ : ByteArray).size = 1 := rfl
  have z45 : (⟨#[45]⟩ : ByteArray).size = 1 := rfl
  have z94 : (⟨#[91, 94]⟩ : ByteArray).size = 2 := rfl
  have s1 : (⟨#[91]⟩ ++ X : ByteArray).size = 5 := by rw [ByteArray.size_append]; omega
  have s2 : (⟨#[91]⟩ ++ X ++ Y : ByteArray).size = 9 := by rw [ByteArray.size_append]; omega
  have s3 : (⟨#[91]⟩ ++ X ++ Y ++ ⟨#[93]⟩ : ByteArray).size = 10 := by rw [ByteArray.size_append]; omega
  have s4 : (⟨#[91]⟩ ++ X ++ ⟨#[45]⟩ : ByteArray).size = 6 := by rw [ByteArray.size_append]; omega
  have s5 : (⟨#[91]⟩ ++ X ++ ⟨#[45]⟩ ++ Y : ByteArray).size = 10 := by rw [ByteArray.size_append]; omega
  have s6 : (⟨#[91]⟩ ++ X ++ ⟨#[45]⟩ ++ Y ++ ⟨#[93]⟩ : ByteArray).size = 11 := by rw [ByteArray.size_append]; omega
  have s7 : (⟨#[91, 94]⟩ ++ X : ByteArray).size = 6 := by rw [ByteArray.size_append]; omega
  have s8 : (⟨#[91, 94]⟩ ++ X ++ ⟨#[45]⟩ : ByteArray).size = 7 := by rw [ByteArray.size_append]; omega
  have s9 : (⟨#[91, 94]⟩ ++ X ++ ⟨#[45]⟩ ++ Y : ByteArray).size = 11 := by rw [ByteArray.size_append]; omega
  have s10 : (⟨#[91, 94]⟩ ++ X ++ ⟨#[45]⟩ ++ Y ++ ⟨#[93]⟩ : ByteArray).size = 12 := by rw [ByteArray.size_append]; omega
  have HZ := hide (And.intro s3 (And.intro s6 s10))
  obtain ⟨h1, g1⟩ : ∃ q, a / 16 = q := ⟨_, rfl⟩
  obtain ⟨l1, g2⟩ : ∃ q, a % 16 = q := ⟨_, rfl⟩
  obtain ⟨h2, g3⟩ : ∃ q, b / 16 = q := ⟨_, rfl⟩
  obtain ⟨l2, g4⟩ : ∃ q, b % 16 = q := ⟨_, rfl⟩
  have d1 : (a : Int) / 16 = (h1 : Int) := by omega
  have d2 : (a : Int) % 16 = (l1 : Int) := by omega
  have d3 : (b : Int) / 16 = (h2 : Int) := by omega
  have d4 : (b : Int) % 16 = (l2 : Int) := by omega
  have k16 : h1 < 16 ∧ l1 < 16 ∧ h2 < 16 ∧ l2 < 16 := by omega
  have X1 := hide (show (⟨#[92, 120]⟩ : ByteArray) ++ hexL.extract h1 (h1 + 1) ++ hexL.extract l1 (l1 + 1) = X from by rw [sx h1 l1 k16.1 k16.2.1, ← hX, ← g1, ← g2]; rfl)
  have Y1 := hide (show (⟨#[92, 120]⟩ : ByteArray) ++ hexL.extract h2 (h2 + 1) ++ hexL.extract l2 (l2 + 1) = Y from by rw [sx h2 l2 k16.2.2.1 k16.2.2.2, ← hY, ← g3, ← g4]; rfl)
  obtain ⟨h1', g1'⟩ : ∃ q, h1 + 1 = q := ⟨_, rfl⟩
  obtain ⟨l1', g2'⟩ : ∃ q, l1 + 1 = q := ⟨_, rfl⟩
  obtain ⟨h2', g3'⟩ : ∃ q, h2 + 1 = q := ⟨_, rfl⟩
  obtain ⟨l2', g4'⟩ : ∃ q, l2 + 1 = q := ⟨_, rfl⟩
  rw [g1', g2'] at X1
  rw [g3', g4'] at Y1
  have w1 : IntKind.u8.wrap ((h1 : Int) + 1) = (h1' : Int) := by rw [show (h1 : Int) + 1 = (h1' : Int) by omega]; simp only [IntKind.wrap_u8]; omega
  have w2 : IntKind.u8.wrap ((l1 : Int) + 1) = (l1' : Int) := by rw [show (l1 : Int) + 1 = (l1' : Int) by omega]; simp only [IntKind.wrap_u8]; omega
  have w3 : IntKind.u8.wrap ((h2 : Int) + 1) = (h2' : Int) := by rw [show (h2 : Int) + 1 = (h2' : Int) by omega]; simp only [IntKind.wrap_u8]; omega
  have w4 : IntKind.u8.wrap ((l2 : Int) + 1) = (l2' : Int) := by rw [show (l2 : Int) + 1 = (l2' : Int) by omega]; simp only [IntKind.wrap_u8]; omega
  have e1 : h1 ≤ h1' := by omega
  have e2 : l1 ≤ l1' := by omega
  have e3 : h2 ≤ h2' := by omega
  have e4 : l2 ≤ l2' := by omega
  obtain ⟨L, hL⟩ : ∃ L, hexL = L := ⟨_, rfl⟩
  rw [hL] at X1 Y1
  have hLs : L.size = 16 := by rw [← hL]; rfl
  have e5 : h1' ≤ L.size := by omega
  have e6 : l1' ≤ L.size := by omega
  have e7 : h2' ≤ L.size := by omega
  have e8 : l2' ≤ L.size := by omega
  have t1 : (L.extract h1 h1').size = 1 := by rw [ByteArray.size_extract]; omega
  have t2 : (L.extract l1 l1').size = 1 := by rw [ByteArray.size_extract]; omega
  have t3 : (L.extract h2 h2').size = 1 := by rw [ByteArray.size_extract]; omega
  have t4 : (L.extract l2 l2').size = 1 := by rw [ByteArray.size_extract]; omega
  have t0 : (⟨#[92, 120]⟩ : ByteArray).size = 2 := rfl
  have t5 : ((⟨#[92, 120]⟩ : ByteArray) ++ L.extract h1 h1').size = 3 := by rw [ByteArray.size_append, t1]; rfl
  have t6 : ((⟨#[92, 120]⟩ : ByteArray) ++ L.extract h2 h2').size = 3 := by rw [ByteArray.size_append, t3]; rfl
  have HL := hide (show (⟨#[48, 49, 50, 51, 52, 53, 54, 55, 56, 57, 97, 98, 99, 100, 101, 102]⟩ : ByteArray) = L from hL)
  clear hL hX hY hS g1 g2 g3 g4 g1' g2' g3' g4' k16
  go_enter Tryd.func4, Tryd.ntmps4
  go_wp2_with fail
  rw [HL.out]
  go_region
  rw [X1.out, Y1.out]
  clear HL X1 Y1 w1 w2 w3 w4 e1 e2 e3 e4 e5 e6 e7 e8 t0 t1 t2 t3 t4 t5 t6 hLs d1 d2 d3 d4
  have G0 := hide (H0.out.low (Below.drew (Below.refl w.heap.size w)))
  clear H0
  go_wp2_with fail
  refine (parse_set r X _ _ P1.out (by omega) G0.out.1).mono ?_; rintro e v1 ⟨x10, x11, x12, x13, A1, cap1, hs1, hw1, rfl, hb1⟩
  have F1 := hide (box_new v1 x10 x11 x12 x13 (.slice A1 0 cap1))
  have G1 := hide ((G0.out.low hb1).low F1.out.2)
  have B11 := hide F1.out.1
  clear P1 G0 hb1 F1
  rw [hs1] at HV1
  clear hs1
  go_wp2_with fail
  obtain ⟨T2, hT2⟩ : ∃ T : ByteArray, (⟨#[91]⟩ ++ X ++ Y ++ ⟨#[93]⟩) = T := ⟨_, rfl⟩
  rw [hT2] at P2 HZ ⊢
  clear hT2
  refine (parse_set r T2 _ _ P2.out (le_of_sz HZ.out.1 (by decide)) G1.out.1).mono ?_; rintro e v2 ⟨x20, x21, x22, x23, A2, cap2, hs2, hw2, rfl, hb2⟩
  have F2 := hide (box_new v2 x20 x21 x22 x23 (.slice A2 0 cap2))
  have G2 := hide ((G1.out.low hb2).low F2.out.2)
  have B12 := hide (show SBox _ v1.heap.size x10 x11 x12 x13 (.slice A1 0 cap1) from (B11.out.below hb2).below F2.out.2)
  have B22 := hide F2.out.1
  clear P2 G1 hb2 F2 B11
  rw [hs2] at HV2
  clear hs2
  go_wp2_with fail
  obtain ⟨T3, hT3⟩ : ∃ T : ByteArray, (⟨#[91]⟩ ++ X ++ ⟨#[45]⟩ ++ Y ++ ⟨#[93]⟩) = T := ⟨_, rfl⟩
  rw [hT3] at P3 HZ ⊢
  clear hT3
  refine (parse_set r T3 _ _ P3.out (le_of_sz HZ.out.2.1 (by decide)) G2.out.1).mono ?_; rintro e v3 ⟨x30, x31, x32, x33, A3, cap3, hs3, hw3, rfl, hb3⟩
  have F3 := hide (box_new v3 x30 x31 x32 x33 (.slice A3 0 cap3))
  have G3 := hide ((G2.out.low hb3).low F3.out.2)
  have B13 := hide (show SBox _ v1.heap.size x10 x11 x12 x13 (.slice A1 0 cap1) from (B12.out.below hb3).below F3.out.2)
  have B23 := hide (show SBox _ v2.heap.size x20 x21 x22 x23 (.slice A2 0 cap2) from (B22.out.below hb3).below F3.out.2)
  have B33 := hide F3.out.1
  clear P3 G2 hb3 F3 B12 B22
  rw [hs3] at HV3
  clear hs3
  go_wp2_with fail
  obtain ⟨T4, hT4⟩ : ∃ T : ByteArray, (⟨#[91, 94]⟩ ++ X ++ ⟨#[45]⟩ ++ Y ++ ⟨#[93]⟩) = T := ⟨_, rfl⟩
  rw [hT4] at P4 HZ ⊢
  clear hT4
  refine (parse_set r T4 _ _ P4.out (le_of_sz HZ.out.2.2 (by decide)) G3.out.1).mono ?_; rintro e v4 ⟨x40, x41, x42, x43, A4, cap4, hs4, hw4, rfl, hb4⟩
  have F4 := hide (box_new v4 x40 x41 x42 x43 (.slice A4 0 cap4))
  have G4 := hide ((G3.out.low hb4).low F4.out.2)
  have B14 := hide (show SBox _ v1.heap.size x10 x11 x12 x13 (.slice A1 0 cap1) from (B13.out.below hb4).below F4.out.2)
  have B24 := hide (show SBox _ v2.heap.size x20 x21 x22 x23 (.slice A2 0 cap2) from (B23.out.below hb4).below F4.out.2)
  have B34 := hide (show SBox _ v3.heap.size x30 x31 x32 x33 (.slice A3 0 cap3) from (B33.out.below hb4).below F4.out.2)
  have B44 := hide F4.out.1
  clear P4 G3 hb4 F4 B13 B23 B33
  rw [hs4] at HV4
  clear hs4
  have K0 := hide (And.intro G4.out (And.intro B14.out (And.intro B24.out (And.intro B34.out B44.out))))
  have k1 := B14.out.cell (i := 0) rfl
  have k2 := B24.out.cell (i := 0) rfl
  have k3 := B34.out.cell (i := 0) rfl
  have k4 := B44.out.cell (i := 0) rfl
  clear G4 B14 B24 B34 B44
  go_wp2
  go_loopw [16] (fun iv wr => ∃ (k : Nat), iv = .int .i64 k ∧ k ≤ 256 ∧ Hid (StW r w wr ∧ SBox wr v1.heap.size x10 x11 x12 x13 (.slice A1 0 cap1) ∧ SBox wr v2.heap.size x20 x21 x22 x23 (.slice A2 0 cap2) ∧ SBox wr v3.heap.size x30 x31 x32 x33 (.slice A3 0 cap3) ∧ SBox wr v4.heap.size x40 x41 x42 x43 (.slice A4 0 cap4))) (fun iv _ => 256 - (intOf iv).toNat)
  case atStart => exact ⟨0, rfl, by omega, K0⟩
  case round =>
    clear K0 k1 k2 k3 k4
    obtain ⟨k, rfl, hk, HB⟩ := hrel
    by_cases hlt : k < 256
    · have v1 := HV1.out k hlt
      have v2 := HV2.out k hlt
      have v3 := HV3.out k hlt
      have v4 := HV4.out k hlt
      have E1 := hide (fun W => has_any x10 x11 x12 x13 k W hw1 hlt)
      have E2 := hide (fun W => has_any x20 x21 x22 x23 k W hw2 hlt)
      have E3 := hide (fun W => has_any x30 x31 x32 x33 k W hw3 hlt)
      have E4 := hide (fun W => has_any x40 x41 x42 x43 k W hw4 hlt)
      rw [v1] at E1
      rw [v2] at E2
      rw [v3] at E3
      rw [v4] at E4
      clear v1 v2 v3 v4
      have hwk : IntKind.u8.wrap (k : Int) = (k : Int) := by simp only [IntKind.wrap_u8]; omega
      have f1 := bq k a
      have f2 := bq k b
      have HC := hide (fun (W : World) (hW : Below wr.heap.size wr W) => show SBox W v1.heap.size x10 x11 x12 x13 (.slice A1 0 cap1) ∧ SBox W v2.heap.size x20 x21 x22 x23 (.slice A2 0 cap2) ∧ SBox W v3.heap.size x30 x31 x32 x33 (.slice A3 0 cap3) ∧ SBox W v4.heap.size x40 x41 x42 x43 (.slice A4 0 cap4) from ⟨HB.out.2.1.below hW, HB.out.2.2.1.below hW, HB.out.2.2.2.1.below hW, HB.out.2.2.2.2.below hW⟩)
      have c11 := HB.out.2.1.cell (i := 1) rfl
      have c12 := HB.out.2.1.cell (i := 2) rfl
      have c13 := HB.out.2.1.cell (i := 3) rfl
      have c14 := HB.out.2.1.cell (i := 4) rfl
      have HG := hide HB.out.1
      have hgo : k + 1 ≤ 256 := hlt
      clear HB
      by_cases h3 : a ≤ k <;> by_cases h4 : k ≤ b <;> by_cases h1 : k = a <;> by_cases h2 : k = b
      all_goals first | (exfalso; omega) | skip
      all_goals
        first | rw [decide_eq_true h1] at E1 E2 f1 | rw [decide_eq_false h1] at E1 E2 f1
        first | rw [decide_eq_true h2] at E2 f2 | rw [decide_eq_false h2] at E2 f2
        first | rw [decide_eq_true h3] at E3 E4 | rw [decide_eq_false h3] at E3 E4
        first | rw [decide_eq_true h4] at E3 E4 | rw [decide_eq_false h4] at E3 E4
        simp only [Bool.true_or, Bool.false_or, Bool.true_and, Bool.false_and, Bool.not_true, Bool.not_false] at E2 E3 E4
        clear h1 h2
        go_wp2_with fail
        refine (E1.out _).mono ?_; rintro e u1 ⟨rfl, hb1⟩
        have HC1 := hide (HC.out _ hb1)
        have c21 := HC1.out.2.1.cell (i := 1) rfl
        have c22 := HC1.out.2.1.cell (i := 2) rfl
        have c23 := HC1.out.2.1.cell (i := 3) rfl
        have c24 := HC1.out.2.1.cell (i := 4) rfl
        clear c11 c12 c13 c14
        go_wp2_with fail
        refine (E2.out _).mono ?_; rintro e u2 ⟨rfl, hb2⟩
        have HB2 := hide (hb1.trans (hb2.mono hb1.size))
        have HC2 := hide (HC.out _ HB2.out)
        have c31 := HC2.out.2.2.1.cell (i := 1) rfl
        have c32 := HC2.out.2.2.1.cell (i := 2) rfl
        have c33 := HC2.out.2.2.1.cell (i := 3) rfl
        have c34 := HC2.out.2.2.1.cell (i := 4) rfl
        clear c21 c22 c23 c24 hb1 hb2
        go_wp2_with fail
        refine (E3.out _).mono ?_; rintro e u3 ⟨rfl, hb3⟩
        have HB3 := hide (HB2.out.trans (hb3.mono HB2.out.size))
        have HC3 := hide (HC.out _ HB3.out)
        have c41 := HC3.out.2.2.2.cell (i := 1) rfl
        have c42 := HC3.out.2.2.2.cell (i := 2) rfl
        have c43 := HC3.out.2.2.2.cell (i := 3) rfl
        have c44 := HC3.out.2.2.2.cell (i := 4) rfl
        clear c31 c32 c33 c34 hb3
        go_wp2_with fail
        refine (E4.out _).mono ?_; rintro e u4 ⟨rfl, hb4⟩
        have HB4 := hide (HB3.out.trans (hb4.mono HB3.out.size))
        clear c41 c42 c43 c44 hb4
        go_wp2
        exact ⟨⟨k + 1, by go_num, hgo, hide ⟨HG.out.low HB4.out, HC.out _ HB4.out⟩⟩, by simp [intOf]; omega⟩
    · obtain rfl : k = 256 := by omega
      go_wp2_with fail
      refine (ruled_any r _ HB.out.1.1).mono ?_; rintro e w9 ⟨rfl, hb9⟩
      go_wp2
      go_ret
      exact ⟨rfl, HB.out.1.2.trans (hb9.mono HB.out.1.2.size)⟩
set_option maxRecDepth 100000 in
theorem lawSet (r a b : Nat) (w : World) (ha : a < 256) (hb : b < 256) (hS : SGr r w) :
    Calls Tryd.prog 4 #[.int .u8 (a : Int), .int .u8 (b : Int)] w fun e W' => e = .returned (.bool true) ∧ Below w.heap.size w W' := by
  by_cases h : a ≤ b
  · exact lawSet1 r a b a b w (by omega) (by omega) h hb hS
  · exact lawSet1 r a b b a w (by omega) (by omega) (by omega) ha hS
end Go.Proofs.YtfamoikmfbpigaaDoor
