/- regs.spans. -/
import Derived.Test.YtfamoikmfbpigaaDoorFruns
import Derived.Test.YtfamoikmfbpigaaDoorSrow
namespace Go.Proofs.YtfamoikmfbpigaaDoor
open Go.RowKit

/-- What spans' box and row hold. -/
structure SpS (w W : World) (S : List Nat) (v : Value) (R : List (Nat × Nat)) : Prop where
  box : Blk W w.heap.size 24 (u4 S)
  row : SRow W (w.heap.size + 1) v (R.map fun p => ⟨(spanT p).toArray⟩)
  below : Below w.heap.size w W
theorem SpS.low {w W V : World} {S : List Nat} {v : Value} {R : List (Nat × Nat)} (h : SpS w W S v R) (hb : Below W.heap.size W V) : SpS w V S v R :=
  ⟨h.box.below hb, h.row.below hb, h.below.trans (hb.mono h.below.size)⟩
theorem SpS.app {w W V : World} {S : List Nat} {v v' : Value} {R : List (Nat × Nat)} {p : Nat × Nat} (h : SpS w W S v R) (hg : W.grownBy V v.ownBlock) (ho : SRow V (w.heap.size + 1) v' ((R ++ [p]).map fun p => ⟨(spanT p).toArray⟩)) : SpS w V S v' (R ++ [p]) := by
  have hr : ∀ q, v.ownBlock = some q → w.heap.size + 1 ≤ q := fun q hq => (World.ownsRow.lt h.row q hq).1
  exact ⟨(hg.block _ h.box.lt (fun e => by have := hr _ e.symm; omega)).trans h.box, ho, h.below.grown hg h.below.size (fun k e => by have := hr k e; omega)⟩
theorem span_one (a : Nat) : spanT (a, a) = shownE a := by unfold spanT; rw [if_neg (by simp)]; simp
theorem span_two {a b : Nat} (h : a < b) : (⟨(shownE a).toArray⟩ : ByteArray) ++ (⟨#[45]⟩ ++ ⟨(shownE b).toArray⟩) = ⟨(spanT (a, b)).toArray⟩ := by
  unfold spanT
  rw [if_pos h, show (⟨#[45]⟩ : ByteArray) = ⟨[45].toArray⟩ from rfl, toArr_app, toArr_app]
  rfl
theorem bd_size (l : List UInt8) : (⟨l.toArray⟩ : ByteArray).size = l.length := by simp [ByteArray.size]
theorem u8_in {b : Nat} (h : b < 256) : IntKind.u8.wrap (b : Int) = (b : Int) := by simp only [IntKind.wrap_u8]; omega
set_option maxHeartbeats 8000000 in
set_option maxRecDepth 100000 in
theorem spans_any (x0 x1 x2 x3 : Nat) (w : World) (hS : W64 [x0, x1, x2, x3]) :
    Calls Tryd.prog 45 #[.agg #[.int .u64 (x0 : Int), .int .u64 (x1 : Int), .int .u64 (x2 : Int), .int .u64 (x3 : Int)]] w (StrP (spansE [x0, x1, x2, x3]) w) := by
  have HS := hide hS
  have HB0 := hide (show SpS w (w.alloc (.cells (u4 [x0, x1, x2, x3]).toArray 24)) [x0, x1, x2, x3] (.slice none 0 0) [] from ⟨Blk.new _ _ _, SRow.nil _ _, (Below.refl _ _).alloc (Nat.le_refl _) _⟩)
  obtain ⟨i0, hinf, hi0, hi1, hi2⟩ := info_strS_parts
  clear hS
  go_enter Tryd.func45, Tryd.ntmps45
  go_wp2
  rw [show w.alloc (.cells #[.int .u64 (x0 : Int), .int .u64 (x1 : Int), .int .u64 (x2 : Int), .int .u64 (x3 : Int)] 24) = w.alloc (.cells (u4 [x0, x1, x2, x3]).toArray 24) from rfl]
  obtain ⟨W0, hW0⟩ : ∃ W, w.alloc (.cells (u4 [x0, x1, x2, x3]).toArray 24) = W := ⟨_, rfl⟩
  rw [hW0] at HB0 ⊢
  clear hW0
  go_loopw [3, 4, 5] (fun v kv bv wr => ∃ (b k : Nat) (R : List (Nat × Nat)), bv = .int .i64 (b : Int) ∧ kv = .int .i64 (k : Int) ∧ b ≤ 256 ∧ k ≤ b ∧ Hid (manyR R = k) ∧ Hid (R ++ scR [x0, x1, x2, x3] b = scR [x0, x1, x2, x3] 0) ∧ Hid (SpS w wr [x0, x1, x2, x3] v R)) (fun _ _ bv _ => 256 - (intOf bv).toNat)
  case atStart => exact ⟨0, 0, [], rfl, rfl, by omega, by omega, hide rfl, hide rfl, HB0⟩
  case round =>
    clear HB0
    obtain ⟨b, k, R, rfl, rfl, hb, hk, HM, HR, HB⟩ := hrel
    have a0 := HB.out.box.cell (i := 0) rfl
    have a1 := HB.out.box.cell (i := 1) rfl
    have a2 := HB.out.box.cell (i := 2) rfl
    have a3 := HB.out.box.cell (i := 3) rfl
    by_cases hlt : b < 256
    · have hw8 := u8_in hlt
      cases hh : hasS [x0, x1, x2, x3] b with
      | false =>
        have HC := hide (has_any x0 x1 x2 x3 b wr HS.out hlt)
        rw [hh] at HC
        have HR2 := hide (show R ++ scR [x0, x1, x2, x3] (b + 1) = scR [x0, x1, x2, x3] 0 by rw [← scR_no hlt hh]; exact HR.out)
        clear hh
        go_wp2_with fail
        refine HC.out.mono ?_; rintro e w1 ⟨rfl, hb1⟩
        have HB1 := hide (HB.out.low hb1)
        clear hb1 HB HC a0 a1 a2 a3
        go_wp2
        go_roundw
        case rel => exact ⟨b + 1, k, R, by go_num, rfl, by omega, by omega, HM, HR2, HB1⟩
        case measure => simp [intOf]; omega
      | true =>
        have HC := hide (has_any x0 x1 x2 x3 b wr HS.out hlt)
        rw [hh] at HC
        have HRY := hide (scR_yes hlt hh)
        have hen := enR_bd [x0, x1, x2, x3] (b := b) (by omega)
        obtain ⟨E, hE⟩ : ∃ E, enR [x0, x1, x2, x3] b = E := ⟨_, rfl⟩
        rw [hE] at hen HRY
        have HE := hide hE
        clear hh hE
        go_wp2_with fail
        refine HC.out.mono ?_; rintro e w1 ⟨rfl, hb1⟩
        have HB1 := hide (HB.out.low hb1)
        clear hb1 HB HC a0 a1 a2 a3
        go_wp2_with fail
        obtain ⟨wo, hwo⟩ : ∃ wo : World, wo = wr := ⟨_, rfl⟩
        clear hwo
        go_loopw [5] (fun cv wr => ∃ c : Nat, cv = .int .i64 (c : Int) ∧ b ≤ c ∧ c ≤ E ∧ Hid (enR [x0, x1, x2, x3] c = E) ∧ Hid (SpS w wr [x0, x1, x2, x3] u3 R)) (fun cv _ => 256 - (intOf cv).toNat)
        case atStart => exact ⟨b, rfl, by omega, by omega, HE, HB1⟩
        case round =>
          clear HB1
          obtain ⟨c, rfl, hbc, hcE, HEc, HB⟩ := hrel
          have a0 := HB.out.box.cell (i := 0) rfl
          have a1 := HB.out.box.cell (i := 1) rfl
          have a2 := HB.out.box.cell (i := 2) rfl
          have a3 := HB.out.box.cell (i := 3) rfl
          --ROUND
          by_cases hc5 : c < 255
          · have qc5 : (c : Int) < 255 := by omega
            have hw81 : IntKind.u8.wrap ((c : Int) + 1) = ((c + 1 : Nat) : Int) := u8_in (b := c + 1) (by omega)
            have HC := hide (has_any x0 x1 x2 x3 (c + 1) wr HS.out (by omega))
            cases hh : hasS [x0, x1, x2, x3] (c + 1) with
            | true =>
              rw [hh] at HC
              have HE2 := hide (show enR [x0, x1, x2, x3] (c + 1) = E by rw [← enR_go hc5 hh]; exact HEc.out)
              have hce2 : c + 1 ≤ E := by have h1 := enR_bd [x0, x1, x2, x3] (b := c + 1) (by omega); have h2 := HE2.out; omega
              clear hh
              go_wp2_with fail
              refine HC.out.mono ?_; rintro e w2 ⟨rfl, hb2⟩
              have HB2 := hide (HB.out.low hb2)
              clear hb2 HB HC a0 a1 a2 a3
              go_wp2
              go_roundw
              case rel => exact ⟨c + 1, by go_num, by omega, by omega, HE2, HB2⟩
              case measure => simp [intOf]; omega
            | false =>
              rw [hh] at HC
              obtain rfl : c = E := by rw [← HEc.out, enR_no hh]
              clear hh
              go_wp2_with fail
              refine HC.out.mono ?_; rintro e w9 ⟨rfl, hb9⟩
              have HB := hide (HB.out.low hb9)
              clear hb9 HC hw81

              have hRl : (R.map fun p => (⟨(spanT p).toArray⟩ : ByteArray)).length ≤ 256 := by rw [List.length_map]; have := manyR_len R; have := HM.out; omega
              have hw9 := u8_in (show c < 256 by omega)
              go_wp2_with fail
              refine (shown_any b _ hlt).mono ?_; rintro e w2 ⟨rfl, hb2⟩
              have HB2 := hide (HB.out.low hb2)
              clear hb2 HB a0 a1 a2 a3
              by_cases hcb : b < c
              · have qcb : (b : Int) < (c : Int) := by omega
                have HSP := hide (span_two hcb)
                have z1 : (⟨(shownE b).toArray⟩ : ByteArray).size ≤ 4 := by rw [bd_size]; exact shownE_len b
                have z2 : (⟨(shownE c).toArray⟩ : ByteArray).size ≤ 4 := by rw [bd_size]; exact shownE_len c
                have HC2 := hide (shown_any c w2 (by omega))
                obtain ⟨s1, hs1⟩ : ∃ s : ByteArray, ⟨(shownE b).toArray⟩ = s := ⟨_, rfl⟩
                obtain ⟨s2, hs2⟩ : ∃ s : ByteArray, ⟨(shownE c).toArray⟩ = s := ⟨_, rfl⟩
                have HC2 := hide (show Calls Tryd.prog 54 #[.int .u8 (c : Int)] w2 fun e w' => e = .returned (.string s2) ∧ Below w2.heap.size w2 w' from by rw [← hs2]; exact HC2.out)
                rw [hs1] at z1 HSP ⊢
                rw [hs2] at z2 HSP
                have y1 : ((⟨#[45]⟩ : ByteArray) ++ s2).size ≤ 5 := by rw [ByteArray.size_append]; have : (⟨#[45]⟩ : ByteArray).size = 1 := rfl; omega
                have y3 : (⟨#[45]⟩ : ByteArray).size = 1 := rfl
                clear hs1 hs2 hcb
                go_wp2_with fail
                refine HC2.out.mono ?_; rintro e w3 ⟨rfl, hb3⟩
                have HB3 := hide (HB2.out.low hb3)
                clear hb3 HB2 HC2
                have hbl : Below w3.heap.size w3 (w3.alloc (.cells #[.string (s1 ++ (⟨#[45]⟩ ++ s2))] 9)) := (Below.refl _ _).alloc (Nat.le_refl _) _
                have HBa := hide (HB3.out.low hbl)
                have hzz := HBa.out.box.lt
                have hrow := HBa.out.row
                clear hbl
                go_wp2_with (at_builtin; refine wpList_append_own _ rfl _ _ 50 rfl (w.heap.size + 1) 9 i0 _ 1 16 Tryd.underlying50 hinf hi0 hi1 hi2 (by rfl) (by decide) u3 _ _ rfl hrow ⟨w3.heap.size, 0, none⟩ 1 1 [.string (s1 ++ (⟨#[45]⟩ ++ s2))] rfl rfl (one_strS w3 (s1 ++ (⟨#[45]⟩ ++ s2))) (by simp [Value.oneCell']) (by unfold maxLen; omega) (by omega) hzz ?_; intro v' w6 hown1 hgrow1 _)
                have HB6 := hide (HBa.out.app (p := (b, c)) hgrow1 (by have h9 := SRow.app hown1; rw [HSP.out] at h9; rw [List.map_append]; exact h9))
                clear hown1 hgrow1 HBa hrow
                go_wp2
                go_roundw
                case rel => exact ⟨c + 1, k + (c - b + 1), R ++ [(b, c)], by go_num, by congr 1; omega, by omega, by omega, hide (by rw [manyR_app, HM.out]; simp [manyR]), hide (by rw [List.append_assoc]; show R ++ ((b, c) :: scR [x0, x1, x2, x3] (c + 1)) = _; rw [← HRY.out]; exact HR.out), HB6⟩
                case measure => simp [intOf]; omega
              · have qcb : ¬ (b : Int) < (c : Int) := by omega
                obtain rfl : b = c := by omega
                have HSP := hide (show (⟨(shownE b).toArray⟩ : ByteArray) = ⟨(spanT (b, b)).toArray⟩ by rw [span_one])
                obtain ⟨s1, hs1⟩ : ∃ s : ByteArray, ⟨(shownE b).toArray⟩ = s := ⟨_, rfl⟩
                rw [hs1] at HSP ⊢
                clear hs1 hcb
                have hbl : Below w2.heap.size w2 (w2.alloc (.cells #[.string (s1)] 9)) := (Below.refl _ _).alloc (Nat.le_refl _) _
                have HBa := hide (HB2.out.low hbl)
                have hzz := HBa.out.box.lt
                have hrow := HBa.out.row
                clear hbl
                go_wp2_with (at_builtin; refine wpList_append_own _ rfl _ _ 50 rfl (w.heap.size + 1) 9 i0 _ 1 16 Tryd.underlying50 hinf hi0 hi1 hi2 (by rfl) (by decide) u3 _ _ rfl hrow ⟨w2.heap.size, 0, none⟩ 1 1 [.string (s1)] rfl rfl (one_strS w2 (s1)) (by simp [Value.oneCell']) (by unfold maxLen; omega) (by omega) hzz ?_; intro v' w6 hown1 hgrow1 _)
                have HB6 := hide (HBa.out.app (p := (b, b)) hgrow1 (by have h9 := SRow.app hown1; rw [HSP.out] at h9; rw [List.map_append]; exact h9))
                clear hown1 hgrow1 HBa hrow
                go_wp2
                go_roundw
                case rel => exact ⟨b + 1, k + (b - b + 1), R ++ [(b, b)], by go_num, by congr 1; omega, by omega, by omega, hide (by rw [manyR_app, HM.out]; simp [manyR]), hide (by rw [List.append_assoc]; show R ++ ((b, b) :: scR [x0, x1, x2, x3] (b + 1)) = _; rw [← HRY.out]; exact HR.out), HB6⟩
                case measure => simp [intOf]; omega
          · have qc5 : ¬ (c : Int) < 255 := by omega
            obtain rfl : c = E := by rw [← HEc.out, enR_last hc5]

            have hRl : (R.map fun p => (⟨(spanT p).toArray⟩ : ByteArray)).length ≤ 256 := by rw [List.length_map]; have := manyR_len R; have := HM.out; omega
            have hw9 := u8_in (show c < 256 by omega)
            go_wp2_with fail
            refine (shown_any b _ hlt).mono ?_; rintro e w2 ⟨rfl, hb2⟩
            have HB2 := hide (HB.out.low hb2)
            clear hb2 HB a0 a1 a2 a3
            by_cases hcb : b < c
            · have qcb : (b : Int) < (c : Int) := by omega
              have HSP := hide (span_two hcb)
              have z1 : (⟨(shownE b).toArray⟩ : ByteArray).size ≤ 4 := by rw [bd_size]; exact shownE_len b
              have z2 : (⟨(shownE c).toArray⟩ : ByteArray).size ≤ 4 := by rw [bd_size]; exact shownE_len c
              have HC2 := hide (shown_any c w2 (by omega))
              obtain ⟨s1, hs1⟩ : ∃ s : ByteArray, ⟨(shownE b).toArray⟩ = s := ⟨_, rfl⟩
              obtain ⟨s2, hs2⟩ : ∃ s : ByteArray, ⟨(shownE c).toArray⟩ = s := ⟨_, rfl⟩
              have HC2 := hide (show Calls Tryd.prog 54 #[.int .u8 (c : Int)] w2 fun e w' => e = .returned (.string s2) ∧ Below w2.heap.size w2 w' from by rw [← hs2]; exact HC2.out)
              rw [hs1] at z1 HSP ⊢
              rw [hs2] at z2 HSP
              have y1 : ((⟨#[45]⟩ : ByteArray) ++ s2).size ≤ 5 := by rw [ByteArray.size_append]; have : (⟨#[45]⟩ : ByteArray).size = 1 := rfl; omega
              have y3 : (⟨#[45]⟩ : ByteArray).size = 1 := rfl
              clear hs1 hs2 hcb
              go_wp2_with fail
              refine HC2.out.mono ?_; rintro e w3 ⟨rfl, hb3⟩
              have HB3 := hide (HB2.out.low hb3)
              clear hb3 HB2 HC2
              have hbl : Below w3.heap.size w3 (w3.alloc (.cells #[.string (s1 ++ (⟨#[45]⟩ ++ s2))] 9)) := (Below.refl _ _).alloc (Nat.le_refl _) _
              have HBa := hide (HB3.out.low hbl)
              have hzz := HBa.out.box.lt
              have hrow := HBa.out.row
              clear hbl
              go_wp2_with (at_builtin; refine wpList_append_own _ rfl _ _ 50 rfl (w.heap.size + 1) 9 i0 _ 1 16 Tryd.underlying50 hinf hi0 hi1 hi2 (by rfl) (by decide) u3 _ _ rfl hrow ⟨w3.heap.size, 0, none⟩ 1 1 [.string (s1 ++ (⟨#[45]⟩ ++ s2))] rfl rfl (one_strS w3 (s1 ++ (⟨#[45]⟩ ++ s2))) (by simp [Value.oneCell']) (by unfold maxLen; omega) (by omega) hzz ?_; intro v' w6 hown1 hgrow1 _)
              have HB6 := hide (HBa.out.app (p := (b, c)) hgrow1 (by have h9 := SRow.app hown1; rw [HSP.out] at h9; rw [List.map_append]; exact h9))
              clear hown1 hgrow1 HBa hrow
              go_wp2
              go_roundw
              case rel => exact ⟨c + 1, k + (c - b + 1), R ++ [(b, c)], by go_num, by congr 1; omega, by omega, by omega, hide (by rw [manyR_app, HM.out]; simp [manyR]), hide (by rw [List.append_assoc]; show R ++ ((b, c) :: scR [x0, x1, x2, x3] (c + 1)) = _; rw [← HRY.out]; exact HR.out), HB6⟩
              case measure => simp [intOf]; omega
            · have qcb : ¬ (b : Int) < (c : Int) := by omega
              obtain rfl : b = c := by omega
              have HSP := hide (show (⟨(shownE b).toArray⟩ : ByteArray) = ⟨(spanT (b, b)).toArray⟩ by rw [span_one])
              obtain ⟨s1, hs1⟩ : ∃ s : ByteArray, ⟨(shownE b).toArray⟩ = s := ⟨_, rfl⟩
              rw [hs1] at HSP ⊢
              clear hs1 hcb
              have hbl : Below w2.heap.size w2 (w2.alloc (.cells #[.string (s1)] 9)) := (Below.refl _ _).alloc (Nat.le_refl _) _
              have HBa := hide (HB2.out.low hbl)
              have hzz := HBa.out.box.lt
              have hrow := HBa.out.row
              clear hbl
              go_wp2_with (at_builtin; refine wpList_append_own _ rfl _ _ 50 rfl (w.heap.size + 1) 9 i0 _ 1 16 Tryd.underlying50 hinf hi0 hi1 hi2 (by rfl) (by decide) u3 _ _ rfl hrow ⟨w2.heap.size, 0, none⟩ 1 1 [.string (s1)] rfl rfl (one_strS w2 (s1)) (by simp [Value.oneCell']) (by unfold maxLen; omega) (by omega) hzz ?_; intro v' w6 hown1 hgrow1 _)
              have HB6 := hide (HBa.out.app (p := (b, b)) hgrow1 (by have h9 := SRow.app hown1; rw [HSP.out] at h9; rw [List.map_append]; exact h9))
              clear hown1 hgrow1 HBa hrow
              go_wp2
              go_roundw
              case rel => exact ⟨b + 1, k + (b - b + 1), R ++ [(b, b)], by go_num, by congr 1; omega, by omega, by omega, hide (by rw [manyR_app, HM.out]; simp [manyR]), hide (by rw [List.append_assoc]; show R ++ ((b, b) :: scR [x0, x1, x2, x3] (b + 1)) = _; rw [← HRY.out]; exact HR.out), HB6⟩
              case measure => simp [intOf]; omega
    · obtain rfl : b = 256 := by omega
      have HRF := hide (show R = scR [x0, x1, x2, x3] 0 by rw [← HR.out, scR_out (by omega), List.append_nil])
      clear a0 a1 a2 a3
      have HX := hide (show spansE [x0, x1, x2, x3] = if k = 0 then noneT else if k = 1 then R.flatMap spanT else 91 :: (R.flatMap spanT ++ [93]) by unfold spansE; rw [← HRF.out, HM.out])
      by_cases h0 : k = 0
      · subst h0
        go_wp2
        go_ret
        exact StrP.mk (by rw [HX.out]; rfl) rfl HB.out.below
      have q0 : ((k : Int) == 0) = false := by simp; omega
      by_cases h1 : k = 1
      · subst h1
        obtain ⟨p, rfl⟩ : ∃ p, R = [p] := by
          have hl := manyR_len R
          have hm := HM.out
          match R, hl, hm with
          | [], _, hm => cases hm
          | [p], _, _ => exact ⟨p, rfl⟩
          | p :: q :: l, hl, hm => rw [hm] at hl; simp at hl
        obtain ⟨A9, c9, rfl, hc9, hm9⟩ := HB.out.row.form (n := 1) (by simp)
        obtain ⟨g, rfl, hg1, hg2, hcg⟩ := HB.out.row.get (j := 0) (s := ⟨(spanT p).toArray⟩) rfl
        go_wp2
        go_ret
        exact StrP.mk (by rw [HX.out]; simp) rfl HB.out.below
      have q1 : ((k : Int) == 1) = false := by simp; omega
      obtain ⟨n, hn⟩ : ∃ n, R.length = n := ⟨_, rfl⟩
      have hn256 : n ≤ 256 := by rw [← hn]; have := manyR_len R; have := HM.out; omega
      obtain ⟨A9, c9, rfl, hc9, hm9⟩ := HB.out.row.form (n := n) (by simp [hn])
      have hn0 : 0 < n := by
        rcases Nat.eq_zero_or_pos n with h | h
        · exfalso
          have : R = [] := List.eq_nil_of_length_eq_zero (by omega)
          have hm := HM.out
          rw [this] at hm
          exact h0 hm.symm
        · exact h
      obtain ⟨p0, hp0⟩ : ∃ p, R[0]? = some p := ⟨_, List.getElem?_eq_getElem (by omega)⟩
      obtain ⟨g, rfl, hg1, hg2, -⟩ := HB.out.row.get (j := 0) (s := ⟨(spanT p0).toArray⟩) (by rw [List.getElem?_map, hp0]; rfl)
      have hjl : (R.map fun p => (⟨(spanT p).toArray⟩ : ByteArray)).map (·.data.toList) = R.map spanT := by simp [List.map_map, Function.comp_def]
      have hfl : (R.map spanT).flatten = R.flatMap spanT := by simp [List.flatMap]
      have HJ := Tryd.strings_Join g 0 c9 (R.map fun p => (⟨(spanT p).toArray⟩ : ByteArray)) ⟨#[]⟩ wr (fun j x hx => by
          rw [Nat.zero_add]
          obtain ⟨g', e1, _, _, e4⟩ := HB.out.row.get hx
          injection e1 with e1; injection e1 with e1; subst e1
          exact e4) hg2 (by rw [List.length_map, hn]; omega) (by rw [List.length_map, hn]; exact hc9)
        (by rw [hjl, show (⟨#[]⟩ : ByteArray).data.toList = [] from rfl, join_flat, hfl]; have := flat_len R; omega)
      rw [hjl, show (⟨#[]⟩ : ByteArray).data.toList = [] from rfl, join_flat, hfl, List.length_map, hn] at HJ
      have hz : (⟨(R.flatMap spanT).toArray⟩ : ByteArray).size ≤ 3000 := by rw [bd_size]; have := flat_len R; omega
      have HXX := hide (show (⟨#[91]⟩ : ByteArray) ++ ⟨(R.flatMap spanT).toArray⟩ ++ ⟨#[93]⟩ = ⟨(spansE [x0, x1, x2, x3]).toArray⟩ by
        rw [HX.out, if_neg h0, if_neg h1, show (⟨#[91]⟩ : ByteArray) = ⟨[91].toArray⟩ from rfl, show (⟨#[93]⟩ : ByteArray) = ⟨[93].toArray⟩ from rfl, toArr_app, toArr_app]; rfl)
      obtain ⟨s, hs⟩ : ∃ s : ByteArray, ⟨(R.flatMap spanT).toArray⟩ = s := ⟨_, rfl⟩
      rw [hs] at HJ hz HXX
      have HJ := hide HJ
      have y1 : ((⟨#[91]⟩ : ByteArray) ++ s).size ≤ 3001 := by rw [ByteArray.size_append]; have : (⟨#[91]⟩ : ByteArray).size = 1 := rfl; omega
      have y2 : (⟨#[91]⟩ : ByteArray).size = 1 := rfl
      have y3 : (⟨#[93]⟩ : ByteArray).size = 1 := rfl
      clear hs hjl hfl h0 h1 hn hp0
      go_wp2_with fail
      refine HJ.out.mono ?_; rintro e w1 ⟨rfl, hb1⟩
      go_wp2
      go_ret
      exact StrP.mk HXX.out rfl (HB.out.below.trans (hb1.mono HB.out.below.size))
end Go.Proofs.YtfamoikmfbpigaaDoor
