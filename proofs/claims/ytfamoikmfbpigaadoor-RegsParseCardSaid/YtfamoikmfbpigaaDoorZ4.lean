/- regs.spans. limnerref10.set. The document's with. regs.may. limnerref10.may. A node as a text. Plain. Rows of nodes of the document's. -/
import Derived.Test.YtfamoikmfbpigaaDoorZ3
import Derived.Test.YtfamoikmfbpigaaDoorZ2
import Derived.Deep.DeepCutAuto
import Derived.Deep.CutBlock
import Derived.Deep.RegionLaw
namespace Go.Proofs.YtfamoikmfbpigaaDoor
open Go.RowKit

/-- What spans' box and row hold. -/
structure SpS (w W : World) (S : List Nat) (v : Value) (R : List (Nat × Nat)) : Prop where
  box : Blk W w.heap.size 24 (u4 S)
  row : SRow W (w.heap.size + 1) v (R.map fun p => ⟨(spanT p).toArray⟩)
  below : Below w.heap.size w W
theorem SpS.low {w W V : World} {S : List Nat} {v : Value} {R : List (Nat × Nat)} (h : SpS w W S v R) (hb : Below W.heap.size W V) : SpS w V S v R :=
  ⟨h.box.below hb, h.row.below hb, h.below.trans (hb.mono h.below.size)⟩
theorem SpS.app {w W V : World} {S : List Nat} {v v' : Value} {R : List (Nat × Nat)} {p : Nat × Nat} (h : SpS w W S v R) (hg : W.grownBy V v.ownBlock) (ho : SRow V (w.heap.size + 1) v' ((R ++ [p]).map fun p => ⟨(spanT p).toArray⟩)) : SpS w V S v' (R ++ [p]) := by
  have hr : ∀ q, v.ownBlock = some q → w.heap.size + 1 ≤ q := fun q hq => (World.ownsRow.lt h.row q hq).1
  exact ⟨(hg.block _ h.box.lt (fun e => by have := hr _ e.symm; omega)).trans h.box, ho, h.below.grown hg h.below.size (fun k e => by have := hr k e; omega)⟩
theorem span_one (a : Nat) : spanT (a, a) = shownE a := by unfold spanT; rw [if_neg (by simp)]; simp
theorem span_two {a b : Nat} (h : a < b) : (⟨(shownE a).toArray⟩ : ByteArray) ++ (⟨#[45]⟩ ++ ⟨(shownE b).toArray⟩) = ⟨(spanT (a, b)).toArray⟩ := by
  unfold spanT
  rw [if_pos h, show (⟨#[45]⟩ : ByteArray) = ⟨[45].toArray⟩ from rfl, toArr_app, toArr_app]
  rfl
theorem bd_size (l : List UInt8) : (⟨l.toArray⟩ : ByteArray).size = l.length := by simp [ByteArray.size]
theorem u8_in {b : Nat} (h : b < 256) : IntKind.u8.wrap (b : Int) = (b : Int) := by simp only [IntKind.wrap_u8]; omega
set_option maxHeartbeats 8000000 in
set_option maxRecDepth 100000 in
theorem spans_any (x0 x1 x2 x3 : Nat) (w : World) (hS : W64 [x0, x1, x2, x3]) :
    Calls Tryd.prog 45 #[.agg #[.int .u64 (x0 : Int), .int .u64 (x1 : Int), .int .u64 (x2 : Int), .int .u64 (x3 : Int)]] w (StrP (spansE [x0, x1, x2, x3]) w) := by
  have HS := hide hS
  have HB0 := hide (show SpS w (w.alloc (.cells (u4 [x0, x1, x2, x3]).toArray 24)) [x0, x1, x2, x3] (.slice none 0 0) [] from ⟨Blk.new _ _ _, SRow.nil _ _, (Below.refl _ _).alloc (Nat.le_refl _) _⟩)
  obtain ⟨i0, hinf, hi0, hi1, hi2⟩ := info_strS_parts
  clear hS
  go_enter Tryd.func45, Tryd.ntmps45
  go_wp2
  rw [show w.alloc (.cells #[.int .u64 (x0 : Int), .int .u64 (x1 : Int), .int .u64 (x2 : Int), .int .u64 (x3 : Int)] 24) = w.alloc (.cells (u4 [x0, x1, x2, x3]).toArray 24) from rfl]
  obtain ⟨W0, hW0⟩ : ∃ W, w.alloc (.cells (u4 [x0, x1, x2, x3]).toArray 24) = W := ⟨_, rfl⟩
  rw [hW0] at HB0 ⊢
  clear hW0
  go_loopw [3, 4, 5] (fun v kv bv wr => ∃ (b k : Nat) (R : List (Nat × Nat)), bv = .int .i64 (b : Int) ∧ kv = .int .i64 (k : Int) ∧ b ≤ 256 ∧ k ≤ b ∧ Hid (manyR R = k) ∧ Hid (R ++ scR [x0, x1, x2, x3] b = scR [x0, x1, x2, x3] 0) ∧ Hid (SpS w wr [x0, x1, x2, x3] v R)) (fun _ _ bv _ => 256 - (intOf bv).toNat)
  case atStart => exact ⟨0, 0, [], rfl, rfl, by omega, by omega, hide rfl, hide rfl, HB0⟩
  case round =>
    clear HB0
    obtain ⟨b, k, R, rfl, rfl, hb, hk, HM, HR, HB⟩ := hrel
    have a0 := HB.out.box.cell (i := 0) rfl
    have a1 := HB.out.box.cell (i := 1) rfl
    have a2 := HB.out.box.cell (i := 2) rfl
    have a3 := HB.out.box.cell (i := 3) rfl
    by_cases hlt : b < 256
    · have hw8 := u8_in hlt
      cases hh : hasS [x0, x1, x2, x3] b with
      | false =>
        have HC := hide (has_any x0 x1 x2 x3 b wr HS.out hlt)
        rw [hh] at HC
        have HR2 := hide (show R ++ scR [x0, x1, x2, x3] (b + 1) = scR [x0, x1, x2, x3] 0 by rw [← scR_no hlt hh]; exact HR.out)
        clear hh
        go_wp2_with fail
        refine HC.out.mono ?_; rintro e w1 ⟨rfl, hb1⟩
        have HB1 := hide (HB.out.low hb1)
        clear hb1 HB HC a0 a1 a2 a3
        go_wp2
        go_roundw
        case rel => exact ⟨b + 1, k, R, by go_num, rfl, by omega, by omega, HM, HR2, HB1⟩
        case measure => simp [intOf]; omega
      | true =>
        have HC := hide (has_any x0 x1 x2 x3 b wr HS.out hlt)
        rw [hh] at HC
        have HRY := hide (scR_yes hlt hh)
        have hen := enR_bd [x0, x1, x2, x3] (b := b) (by omega)
        obtain ⟨E, hE⟩ : ∃ E, enR [x0, x1, x2, x3] b = E := ⟨_, rfl⟩
        rw [hE] at hen HRY
        have HE := hide hE
        clear hh hE
        go_wp2_with fail
        refine HC.out.mono ?_; rintro e w1 ⟨rfl, hb1⟩
        have HB1 := hide (HB.out.low hb1)
        clear hb1 HB HC a0 a1 a2 a3
        go_wp2_with fail
        obtain ⟨wo, hwo⟩ : ∃ wo : World, wo = wr := ⟨_, rfl⟩
        clear hwo
        go_loopw [5] (fun cv wr => ∃ c : Nat, cv = .int .i64 (c : Int) ∧ b ≤ c ∧ c ≤ E ∧ Hid (enR [x0, x1, x2, x3] c = E) ∧ Hid (SpS w wr [x0, x1, x2, x3] u3 R)) (fun cv _ => 256 - (intOf cv).toNat)
        case atStart => exact ⟨b, rfl, by omega, by omega, HE, HB1⟩
        case round =>
          clear HB1
          obtain ⟨c, rfl, hbc, hcE, HEc, HB⟩ := hrel
          have a0 := HB.out.box.cell (i := 0) rfl
          have a1 := HB.out.box.cell (i := 1) rfl
          have a2 := HB.out.box.cell (i := 2) rfl
          have a3 := HB.out.box.cell (i := 3) rfl
          --ROUND
          by_cases hc5 : c < 255
          · have qc5 : (c : Int) < 255 := by omega
            have hw81 : IntKind.u8.wrap ((c : Int) + 1) = ((c + 1 : Nat) : Int) := u8_in (b := c + 1) (by omega)
            have HC := hide (has_any x0 x1 x2 x3 (c + 1) wr HS.out (by omega))
            cases hh : hasS [x0, x1, x2, x3] (c + 1) with
            | true =>
              rw [hh] at HC
              have HE2 := hide (show enR [x0, x1, x2, x3] (c + 1) = E by rw [← enR_go hc5 hh]; exact HEc.out)
              have hce2 : c + 1 ≤ E := by have h1 := enR_bd [x0, x1, x2, x3] (b := c + 1) (by omega); have h2 := HE2.out; omega
              clear hh
              go_wp2_with fail
              refine HC.out.mono ?_; rintro e w2 ⟨rfl, hb2⟩
              have HB2 := hide (HB.out.low hb2)
              clear hb2 HB HC a0 a1 a2 a3
              go_wp2
              go_roundw
              case rel => exact ⟨c + 1, by go_num, by omega, by omega, HE2, HB2⟩
              case measure => simp [intOf]; omega
            | false =>
              rw [hh] at HC
              obtain rfl : c = E := by rw [← HEc.out, enR_no hh]
              clear hh
              go_wp2_with fail
              refine HC.out.mono ?_; rintro e w9 ⟨rfl, hb9⟩
              have HB := hide (HB.out.low hb9)
              clear hb9 HC hw81

              have hRl : (R.map fun p => (⟨(spanT p).toArray⟩ : ByteArray)).length ≤ 256 := by rw [List.length_map]; have := manyR_len R; have := HM.out; omega
              have hw9 := u8_in (show c < 256 by omega)
              go_wp2_with fail
              refine (shown_any b _ hlt).mono ?_; rintro e w2 ⟨rfl, hb2⟩
              have HB2 := hide (HB.out.low hb2)
              clear hb2 HB a0 a1 a2 a3
              by_cases hcb : b < c
              · have qcb : (b : Int) < (c : Int) := by omega
                have HSP := hide (span_two hcb)
                have z1 : (⟨(shownE b).toArray⟩ : ByteArray).size ≤ 4 := by rw [bd_size]; exact shownE_len b
                have z2 : (⟨(shownE c).toArray⟩ : ByteArray).size ≤ 4 := by rw [bd_size]; exact shownE_len c
                have HC2 := hide (shown_any c w2 (by omega))
                obtain ⟨s1, hs1⟩ : ∃ s : ByteArray, ⟨(shownE b).toArray⟩ = s := ⟨_, rfl⟩
                obtain ⟨s2, hs2⟩ : ∃ s : ByteArray, ⟨(shownE c).toArray⟩ = s := ⟨_, rfl⟩
                have HC2 := hide (show Calls Tryd.prog 54 #[.int .u8 (c : Int)] w2 fun e w' => e = .returned (.string s2) ∧ Below w2.heap.size w2 w' from by rw [← hs2]; exact HC2.out)
                rw [hs1] at z1 HSP ⊢
                rw [hs2] at z2 HSP
                have y1 : ((⟨#[45]⟩ : ByteArray) ++ s2).size ≤ 5 := by rw [ByteArray.size_append]; have : (⟨#[45]⟩ : ByteArray).size = 1 := rfl; omega
                have y3 : (⟨#[45]⟩ : ByteArray).size = 1 := rfl
                clear hs1 hs2 hcb
                go_wp2_with fail
                refine HC2.out.mono ?_; rintro e w3 ⟨rfl, hb3⟩
                have HB3 := hide (HB2.out.low hb3)
                clear hb3 HB2 HC2
                have hbl : Below w3.heap.size w3 (w3.alloc (.cells #[.string (s1 ++ (⟨#[45]⟩ ++ s2))] 9)) := (Below.refl _ _).alloc (Nat.le_refl _) _
                have HBa := hide (HB3.out.low hbl)
                have hzz := HBa.out.box.lt
                have hrow := HBa.out.row
                clear hbl
                go_wp2_with (at_builtin; refine wpList_append_own _ rfl _ _ 50 rfl (w.heap.size + 1) 9 i0 _ 1 16 Tryd.underlying50 hinf hi0 hi1 hi2 (by rfl) (by decide) u3 _ _ rfl hrow ⟨w3.heap.size, 0, none⟩ 1 1 [.string (s1 ++ (⟨#[45]⟩ ++ s2))] rfl rfl (one_strS w3 (s1 ++ (⟨#[45]⟩ ++ s2))) (by simp [Value.oneCell']) (by unfold maxLen; omega) (by omega) hzz ?_; intro v' w6 hown1 hgrow1 _)
                have HB6 := hide (HBa.out.app (p := (b, c)) hgrow1 (by have h9 := SRow.app hown1; rw [HSP.out] at h9; rw [List.map_append]; exact h9))
                clear hown1 hgrow1 HBa hrow
                go_wp2
                go_roundw
                case rel => exact ⟨c + 1, k + (c - b + 1), R ++ [(b, c)], by go_num, by congr 1; omega, by omega, by omega, hide (by rw [manyR_app, HM.out]; simp [manyR]), hide (by rw [List.append_assoc]; show R ++ ((b, c) :: scR [x0, x1, x2, x3] (c + 1)) = _; rw [← HRY.out]; exact HR.out), HB6⟩
                case measure => simp [intOf]; omega
              · have qcb : ¬ (b : Int) < (c : Int) := by omega
                obtain rfl : b = c := by omega
                have HSP := hide (show (⟨(shownE b).toArray⟩ : ByteArray) = ⟨(spanT (b, b)).toArray⟩ by rw [span_one])
                obtain ⟨s1, hs1⟩ : ∃ s : ByteArray, ⟨(shownE b).toArray⟩ = s := ⟨_, rfl⟩
                rw [hs1] at HSP ⊢
                clear hs1 hcb
                have hbl : Below w2.heap.size w2 (w2.alloc (.cells #[.string (s1)] 9)) := (Below.refl _ _).alloc (Nat.le_refl _) _
                have HBa := hide (HB2.out.low hbl)
                have hzz := HBa.out.box.lt
                have hrow := HBa.out.row
                clear hbl
                go_wp2_with (at_builtin; refine wpList_append_own _ rfl _ _ 50 rfl (w.heap.size + 1) 9 i0 _ 1 16 Tryd.underlying50 hinf hi0 hi1 hi2 (by rfl) (by decide) u3 _ _ rfl hrow ⟨w2.heap.size, 0, none⟩ 1 1 [.string (s1)] rfl rfl (one_strS w2 (s1)) (by simp [Value.oneCell']) (by unfold maxLen; omega) (by omega) hzz ?_; intro v' w6 hown1 hgrow1 _)
                have HB6 := hide (HBa.out.app (p := (b, b)) hgrow1 (by have h9 := SRow.app hown1; rw [HSP.out] at h9; rw [List.map_append]; exact h9))
                clear hown1 hgrow1 HBa hrow
                go_wp2
                go_roundw
                case rel => exact ⟨b + 1, k + (b - b + 1), R ++ [(b, b)], by go_num, by congr 1; omega, by omega, by omega, hide (by rw [manyR_app, HM.out]; simp [manyR]), hide (by rw [List.append_assoc]; show R ++ ((b, b) :: scR [x0, x1, x2, x3] (b + 1)) = _; rw [← HRY.out]; exact HR.out), HB6⟩
                case measure => simp [intOf]; omega
          · have qc5 : ¬ (c : Int) < 255 := by omega
            obtain rfl : c = E := by rw [← HEc.out, enR_last hc5]

            have hRl : (R.map fun p => (⟨(spanT p).toArray⟩ : ByteArray)).length ≤ 256 := by rw [List.length_map]; have := manyR_len R; have := HM.out; omega
            have hw9 := u8_in (show c < 256 by omega)
            go_wp2_with fail
            refine (shown_any b _ hlt).mono ?_; rintro e w2 ⟨rfl, hb2⟩
            have HB2 := hide (HB.out.low hb2)
            clear hb2 HB a0 a1 a2 a3
            by_cases hcb : b < c
            · have qcb : (b : Int) < (c : Int) := by omega
              have HSP := hide (span_two hcb)
              have z1 : (⟨(shownE b).toArray⟩ : ByteArray).size ≤ 4 := by rw [bd_size]; exact shownE_len b
              have z2 : (⟨(shownE c).toArray⟩ : ByteArray).size ≤ 4 := by rw [bd_size]; exact shownE_len c
              have HC2 := hide (shown_any c w2 (by omega))
              obtain ⟨s1, hs1⟩ : ∃ s : ByteArray, ⟨(shownE b).toArray⟩ = s := ⟨_, rfl⟩
              obtain ⟨s2, hs2⟩ : ∃ s : ByteArray, ⟨(shownE c).toArray⟩ = s := ⟨_, rfl⟩
              have HC2 := hide (show Calls Tryd.prog 54 #[.int .u8 (c : Int)] w2 fun e w' => e = .returned (.string s2) ∧ Below w2.heap.size w2 w' from by rw [← hs2]; exact HC2.out)
              rw [hs1] at z1 HSP ⊢
              rw [hs2] at z2 HSP
              have y1 : ((⟨#[45]⟩ : ByteArray) ++ s2).size ≤ 5 := by rw [ByteArray.size_append]; have : (⟨#[45]⟩ : ByteArray).size = 1 := rfl; omega
              have y3 : (⟨#[45]⟩ : ByteArray).size = 1 := rfl
              clear hs1 hs2 hcb
              go_wp2_with fail
              refine HC2.out.mono ?_; rintro e w3 ⟨rfl, hb3⟩
              have HB3 := hide (HB2.out.low hb3)
              clear hb3 HB2 HC2
              have hbl : Below w3.heap.size w3 (w3.alloc (.cells #[.string (s1 ++ (⟨#[45]⟩ ++ s2))] 9)) := (Below.refl _ _).alloc (Nat.le_refl _) _
              have HBa := hide (HB3.out.low hbl)
              have hzz := HBa.out.box.lt
              have hrow := HBa.out.row
              clear hbl
              go_wp2_with (at_builtin; refine wpList_append_own _ rfl _ _ 50 rfl (w.heap.size + 1) 9 i0 _ 1 16 Tryd.underlying50 hinf hi0 hi1 hi2 (by rfl) (by decide) u3 _ _ rfl hrow ⟨w3.heap.size, 0, none⟩ 1 1 [.string (s1 ++ (⟨#[45]⟩ ++ s2))] rfl rfl (one_strS w3 (s1 ++ (⟨#[45]⟩ ++ s2))) (by simp [Value.oneCell']) (by unfold maxLen; omega) (by omega) hzz ?_; intro v' w6 hown1 hgrow1 _)
              have HB6 := hide (HBa.out.app (p := (b, c)) hgrow1 (by have h9 := SRow.app hown1; rw [HSP.out] at h9; rw [List.map_append]; exact h9))
              clear hown1 hgrow1 HBa hrow
              go_wp2
              go_roundw
              case rel => exact ⟨c + 1, k + (c - b + 1), R ++ [(b, c)], by go_num, by congr 1; omega, by omega, by omega, hide (by rw [manyR_app, HM.out]; simp [manyR]), hide (by rw [List.append_assoc]; show R ++ ((b, c) :: scR [x0, x1, x2, x3] (c + 1)) = _; rw [← HRY.out]; exact HR.out), HB6⟩
              case measure => simp [intOf]; omega
            · have qcb : ¬ (b : Int) < (c : Int) := by omega
              obtain rfl : b = c := by omega
              have HSP := hide (show (⟨(shownE b).toArray⟩ : ByteArray) = ⟨(spanT (b, b)).toArray⟩ by rw [span_one])
              obtain ⟨s1, hs1⟩ : ∃ s : ByteArray, ⟨(shownE b).toArray⟩ = s := ⟨_, rfl⟩
              rw [hs1] at HSP ⊢
              clear hs1 hcb
              have hbl : Below w2.heap.size w2 (w2.alloc (.cells #[.string (s1)] 9)) := (Below.refl _ _).alloc (Nat.le_refl _) _
              have HBa := hide (HB2.out.low hbl)
              have hzz := HBa.out.box.lt
              have hrow := HBa.out.row
              clear hbl
              go_wp2_with (at_builtin; refine wpList_append_own _ rfl _ _ 50 rfl (w.heap.size + 1) 9 i0 _ 1 16 Tryd.underlying50 hinf hi0 hi1 hi2 (by rfl) (by decide) u3 _ _ rfl hrow ⟨w2.heap.size, 0, none⟩ 1 1 [.string (s1)] rfl rfl (one_strS w2 (s1)) (by simp [Value.oneCell']) (by unfold maxLen; omega) (by omega) hzz ?_; intro v' w6 hown1 hgrow1 _)
              have HB6 := hide (HBa.out.app (p := (b, b)) hgrow1 (by have h9 := SRow.app hown1; rw [HSP.out] at h9; rw [List.map_append]; exact h9))
              clear hown1 hgrow1 HBa hrow
              go_wp2
              go_roundw
              case rel => exact ⟨b + 1, k + (b - b + 1), R ++ [(b, b)], by go_num, by congr 1; omega, by omega, by omega, hide (by rw [manyR_app, HM.out]; simp [manyR]), hide (by rw [List.append_assoc]; show R ++ ((b, b) :: scR [x0, x1, x2, x3] (b + 1)) = _; rw [← HRY.out]; exact HR.out), HB6⟩
              case measure => simp [intOf]; omega
    · obtain rfl : b = 256 := by omega
      have HRF := hide (show R = scR [x0, x1, x2, x3] 0 by rw [← HR.out, scR_out (by omega), List.append_nil])
      clear a0 a1 a2 a3
      have HX := hide (show spansE [x0, x1, x2, x3] = if k = 0 then noneT else if k = 1 then R.flatMap spanT else 91 :: (R.flatMap spanT ++ [93]) by unfold spansE; rw [← HRF.out, HM.out])
      by_cases h0 : k = 0
      · subst h0
        go_wp2
        go_ret
        exact StrP.mk (by rw [HX.out]; rfl) rfl HB.out.below
      have q0 : ((k : Int) == 0) = false := by simp; omega
      by_cases h1 : k = 1
      · subst h1
        obtain ⟨p, rfl⟩ : ∃ p, R = [p] := by
          have hl := manyR_len R
          have hm := HM.out
          match R, hl, hm with
          | [], _, hm => cases hm
          | [p], _, _ => exact ⟨p, rfl⟩
          | p :: q :: l, hl, hm => rw [hm] at hl; simp at hl
        obtain ⟨A9, c9, rfl, hc9, hm9⟩ := HB.out.row.form (n := 1) (by simp)
        obtain ⟨g, rfl, hg1, hg2, hcg⟩ := HB.out.row.get (j := 0) (s := ⟨(spanT p).toArray⟩) rfl
        go_wp2
        go_ret
        exact StrP.mk (by rw [HX.out]; simp) rfl HB.out.below
      have q1 : ((k : Int) == 1) = false := by simp; omega
      obtain ⟨n, hn⟩ : ∃ n, R.length = n := ⟨_, rfl⟩
      have hn256 : n ≤ 256 := by rw [← hn]; have := manyR_len R; have := HM.out; omega
      obtain ⟨A9, c9, rfl, hc9, hm9⟩ := HB.out.row.form (n := n) (by simp [hn])
      have hn0 : 0 < n := by
        rcases Nat.eq_zero_or_pos n with h | h
        · exfalso
          have : R = [] := List.eq_nil_of_length_eq_zero (by omega)
          have hm := HM.out
          rw [this] at hm
          exact h0 hm.symm
        · exact h
      obtain ⟨p0, hp0⟩ : ∃ p, R[0]? = some p := ⟨_, List.getElem?_eq_getElem (by omega)⟩
      obtain ⟨g, rfl, hg1, hg2, -⟩ := HB.out.row.get (j := 0) (s := ⟨(spanT p0).toArray⟩) (by rw [List.getElem?_map, hp0]; rfl)
      have hjl : (R.map fun p => (⟨(spanT p).toArray⟩ : ByteArray)).map (·.data.toList) = R.map spanT := by simp [List.map_map, Function.comp_def]
      have hfl : (R.map spanT).flatten = R.flatMap spanT := by simp [List.flatMap]
      have HJ := Tryd.strings_Join g 0 c9 (R.map fun p => (⟨(spanT p).toArray⟩ : ByteArray)) ⟨#[]⟩ wr (fun j x hx => by
          rw [Nat.zero_add]
          obtain ⟨g', e1, _, _, e4⟩ := HB.out.row.get hx
          injection e1 with e1; injection e1 with e1; subst e1
          exact e4) hg2 (by rw [List.length_map, hn]; omega) (by rw [List.length_map, hn]; exact hc9)
        (by rw [hjl, show (⟨#[]⟩ : ByteArray).data.toList = [] from rfl, join_flat, hfl]; have := flat_len R; omega)
      rw [hjl, show (⟨#[]⟩ : ByteArray).data.toList = [] from rfl, join_flat, hfl, List.length_map, hn] at HJ
      have hz : (⟨(R.flatMap spanT).toArray⟩ : ByteArray).size ≤ 3000 := by rw [bd_size]; have := flat_len R; omega
      have HXX := hide (show (⟨#[91]⟩ : ByteArray) ++ ⟨(R.flatMap spanT).toArray⟩ ++ ⟨#[93]⟩ = ⟨(spansE [x0, x1, x2, x3]).toArray⟩ by
        rw [HX.out, if_neg h0, if_neg h1, show (⟨#[91]⟩ : ByteArray) = ⟨[91].toArray⟩ from rfl, show (⟨#[93]⟩ : ByteArray) = ⟨[93].toArray⟩ from rfl, toArr_app, toArr_app]; rfl)
      obtain ⟨s, hs⟩ : ∃ s : ByteArray, ⟨(R.flatMap spanT).toArray⟩ = s := ⟨_, rfl⟩
      rw [hs] at HJ hz HXX
      have HJ := hide HJ
      have y1 : ((⟨#[91]⟩ : ByteArray) ++ s).size ≤ 3001 := by rw [ByteArray.size_append]; have : (⟨#[91]⟩ : ByteArray).size = 1 := rfl; omega
      have y2 : (⟨#[91]⟩ : ByteArray).size = 1 := rfl
      have y3 : (⟨#[93]⟩ : ByteArray).size = 1 := rfl
      clear hs hjl hfl h0 h1 hn hp0
      go_wp2_with fail
      refine HJ.out.mono ?_; rintro e w1 ⟨rfl, hb1⟩
      go_wp2
      go_ret
      exact StrP.mk HXX.out rfl (HB.out.below.trans (hb1.mono HB.out.below.size))
end Go.Proofs.YtfamoikmfbpigaaDoor
namespace Go.Proofs.YtfamoikmfbpigaaDoor
open Go.RowKit

def cBf (S : List Nat) : Nat → Nat → Nat
  | 0, _ => 0
  | f + 1, b => (if hasS S b = true then 1 else 0) + cBf S f (b + 1)
/-- How many bytes a set has, from one on. -/
def cB (S : List Nat) (b : Nat) : Nat := cBf S (256 - b) b
theorem cB_step {S : List Nat} {b : Nat} (h : b < 256) : cB S b = (if hasS S b = true then 1 else 0) + cB S (b + 1) := by
  unfold cB
  rw [show 256 - b = (256 - (b + 1)) + 1 by omega, cBf]
theorem cB_run (S : List Nat) : ∀ (f b : Nat), 255 - b ≤ f → b ≤ 255 → hasS S b = true → cB S b = (enR S b - b + 1) + cB S (enR S b + 1)
  | 0, b, hf, hb, hh => by
    obtain rfl : b = 255 := by omega
    rw [cB_step (by omega), if_pos hh, enR_last (by omega)]
  | f + 1, b, hf, hb, hh => by
    rw [cB_step (by omega), if_pos hh]
    by_cases h : b < 255
    · cases h2 : hasS S (b + 1) with
      | true =>
        have := cB_run S f (b + 1) (by omega) (by omega) h2
        have hbd := enR_bd S (b := b + 1) (by omega)
        rw [enR_go h h2, this]; omega
      | false => rw [enR_no h2]; omega
    · rw [enR_last h]; omega
theorem many_cB (S : List Nat) : ∀ (f b : Nat), 256 - b ≤ f → manyR (scR S b) = cB S b
  | 0, b, h => by rw [scR_out (by omega)]; unfold cB; rw [show 256 - b = 0 by omega]; rfl
  | f + 1, b, h => by
    by_cases hb : b < 256
    · cases h2 : hasS S b with
      | true =>
        have hbd := enR_bd S (b := b) (by omega)
        rw [scR_yes hb h2, cB_run S 256 b (by omega) (by omega) h2, ← many_cB S f (enR S b + 1) (by omega)]
        simp [manyR]
      | false => rw [scR_no hb h2, cB_step hb, h2, if_neg (by decide), Nat.zero_add]; exact many_cB S f (b + 1) (by omega)
    · rw [scR_out hb]; unfold cB; rw [show 256 - b = 0 by omega]; rfl
/-- What is left behind a byte of a run. -/
def cR (S : List Nat) (b : Nat) : List (Nat × Nat) := if b < 255 ∧ hasS S (b + 1) = true then scR S (enR S (b + 1) + 1) else scR S (b + 1)
theorem cR_eq (S : List Nat) (b : Nat) : cR S b = scR S (enR S b + 1) := by
  unfold cR
  split
  · rename_i h; rw [enR_go h.1 h.2]
  · rename_i h
    by_cases h1 : b < 255
    · rw [enR_no (by simpa [h1] using h)]
    · rw [enR_last h1]
def rsR (S : List Nat) (b : Nat) : List (Nat × Nat) := if b = 0 ∨ hasS S (b - 1) = false then scR S b else cR S (b - 1)
theorem rs_0 (S : List Nat) : rsR S 0 = scR S 0 := if_pos (.inl rfl)
theorem rs_no {S : List Nat} {b : Nat} (h : b < 256) (h2 : hasS S b = false) : rsR S b = rsR S (b + 1) := by
  have e1 : rsR S (b + 1) = scR S (b + 1) := if_pos (.inr (by simpa using h2))
  rw [e1, ← scR_no h h2]
  unfold rsR
  split
  · rfl
  · rename_i hh
    have hb0 : 0 < b := by rcases Nat.eq_zero_or_pos b with h | h; exact absurd (.inl h) hh; exact h
    unfold cR
    rw [show b - 1 + 1 = b by omega, if_neg (by rw [h2]; simp)]
theorem rs_in {S : List Nat} {b : Nat} (hb : b < 255) (h : hasS S b = true) (h2 : hasS S (b + 1) = true) : rsR S (b + 1) = rsR S (b + 1 + 1) := by
  have e1 : rsR S (b + 1) = cR S b := if_neg (by simp [h])
  have e2 : rsR S (b + 1 + 1) = cR S (b + 1) := if_neg (by simp [h2])
  rw [e1, e2, cR_eq, cR_eq, enR_go hb h2]
theorem rs_new {S : List Nat} {b : Nat} (hb : b < 256) (h : hasS S b = true) (h2 : b = 0 ∨ hasS S (b - 1) = false) : rsR S b = (b, enR S b) :: rsR S (b + 1) := by
  have e2 : rsR S (b + 1) = cR S b := if_neg (by simp [h])
  rw [e2, cR_eq, ← scR_yes hb h]
  exact if_pos h2
theorem rs_end (S : List Nat) : rsR S 256 = [] := by
  unfold rsR
  split
  · exact scR_out (by omega)
  · rw [cR_eq, enR_last (by omega)]; exact scR_out (by omega)
def txtR (l : List (Nat × Nat)) : ByteArray := ⟨(l.flatMap spanT).toArray⟩
theorem txtR_app (l : List (Nat × Nat)) (p : Nat × Nat) : txtR (l ++ [p]) = txtR l ++ ⟨(spanT p).toArray⟩ := by
  unfold txtR
  rw [toArr_app, List.flatMap_append]
  simp
theorem span_three {a b : Nat} (h : a < b) (s : ByteArray) : s ++ (⟨(shownE a).toArray⟩ : ByteArray) ++ ⟨#[45]⟩ ++ ⟨(shownE b).toArray⟩ = s ++ ⟨(spanT (a, b)).toArray⟩ := by
  rw [← span_two h, ByteArray.append_assoc, ByteArray.append_assoc]
/-- What set's box is. -/
def StS (w W : World) (S : List Nat) : Prop := Blk W w.heap.size 24 (u4 S) ∧ Below w.heap.size w W
theorem StS.low {w W V : World} {S : List Nat} (h : StS w W S) (hb : Below W.heap.size W V) : StS w V S := ⟨h.1.below hb, h.2.trans (hb.mono h.2.size)⟩
set_option maxHeartbeats 8000000 in
set_option maxRecDepth 100000 in
theorem rset_any (x0 x1 x2 x3 : Nat) (w : World) (hS : W64 [x0, x1, x2, x3]) :
    Calls Tryd.prog 47 #[.agg #[.int .u64 (x0 : Int), .int .u64 (x1 : Int), .int .u64 (x2 : Int), .int .u64 (x3 : Int)]] w (StrP (spansE [x0, x1, x2, x3]) w) := by
  have HS := hide hS
  have HB0 := hide (show StS w (w.alloc (.cells (u4 [x0, x1, x2, x3]).toArray 24)) [x0, x1, x2, x3] from ⟨Blk.new _ _ _, (Below.refl _ _).alloc (Nat.le_refl _) _⟩)
  clear hS
  go_enter Tryd.func47, Tryd.ntmps47
  go_wp2
  rw [show w.alloc (.cells #[.int .u64 (x0 : Int), .int .u64 (x1 : Int), .int .u64 (x2 : Int), .int .u64 (x3 : Int)] 24) = w.alloc (.cells (u4 [x0, x1, x2, x3]).toArray 24) from rfl]
  obtain ⟨W0, hW0⟩ : ∃ W, w.alloc (.cells (u4 [x0, x1, x2, x3]).toArray 24) = W := ⟨_, rfl⟩
  rw [hW0] at HB0 ⊢
  clear hW0
  go_loopw [3, 4, 5] (fun sv kv bv wr => ∃ (b k : Nat) (s : ByteArray) (R : List (Nat × Nat)), bv = .int .i64 (b : Int) ∧ kv = .int .i64 (k : Int) ∧ sv = .string s ∧ b ≤ 256 ∧ k ≤ b ∧ R.length ≤ b ∧ s.size ≤ 9 * b ∧ Hid (txtR R = s) ∧ Hid (k + cB [x0, x1, x2, x3] b = cB [x0, x1, x2, x3] 0) ∧ Hid (R ++ rsR [x0, x1, x2, x3] b = scR [x0, x1, x2, x3] 0) ∧ Hid (StS w wr [x0, x1, x2, x3])) (fun _ _ bv _ => 256 - (intOf bv).toNat)
  case atStart => exact ⟨0, 0, ⟨#[]⟩, [], rfl, rfl, rfl, by omega, by omega, by simp, by simp [ByteArray.size], hide rfl, hide (by simp), hide (by rw [rs_0]; rfl), HB0⟩
  case round =>
    clear HB0
    obtain ⟨b, k, s, R, rfl, rfl, rfl, hb, hk, hRl, hsz, HT, HK, HR, HB⟩ := hrel
    have z0 : s.size ≤ 2304 := by omega
    have HSZ := hide hsz
    have HKR := hide (And.intro hk hRl)
    have k9 : k ≤ 256 := by omega
    clear hsz hk hRl
    have a0 := HB.out.1.cell (i := 0) rfl
    have a1 := HB.out.1.cell (i := 1) rfl
    have a2 := HB.out.1.cell (i := 2) rfl
    have a3 := HB.out.1.cell (i := 3) rfl
    by_cases hlt : b < 256
    · have hw8 := u8_in hlt
      have hcb := cB_step (S := [x0, x1, x2, x3]) hlt
      have HC := hide (rhas_any x0 x1 x2 x3 b wr HS.out hlt)
      cases hh : hasS [x0, x1, x2, x3] b with
      | false =>
        rw [hh] at HC hcb
        rw [if_neg (by decide), Nat.zero_add] at hcb
        have HK2 := hide (show k + cB [x0, x1, x2, x3] (b + 1) = cB [x0, x1, x2, x3] 0 by rw [← hcb]; exact HK.out)
        have HR2 := hide (show R ++ rsR [x0, x1, x2, x3] (b + 1) = scR [x0, x1, x2, x3] 0 by rw [← rs_no hlt hh]; exact HR.out)
        clear hh hcb
        go_wp2_with fail
        refine HC.out.mono ?_; rintro e w1 ⟨rfl, hb1⟩
        have HB1 := hide (HB.out.low hb1)
        clear hb1 HB HC a0 a1 a2 a3
        go_wp2
        go_roundw
        case rel => exact ⟨b + 1, k, s, R, by go_num, rfl, rfl, by omega, by have := HKR.out.1; omega, by have := HKR.out.2; omega, by have := HSZ.out; omega, HT, HK2, HR2, HB1⟩
        case measure => simp [intOf]; omega
      | true =>
        rw [hh] at HC hcb
        rw [if_pos rfl] at hcb
        have HK2 := hide (show (k + 1) + cB [x0, x1, x2, x3] (b + 1) = cB [x0, x1, x2, x3] 0 by rw [← HK.out, hcb]; omega)
        clear hcb
        go_wp2_with fail
        refine HC.out.mono ?_; rintro e w1 ⟨rfl, hb1⟩
        have HB1 := hide (HB.out.low hb1)
        clear hb1 HB HC a0 a1 a2 a3
        by_cases hb0 : b = 0
        · have h0 : b = 0 ∨ hasS [x0, x1, x2, x3] (b - 1) = false := .inl hb0
          obtain ⟨bi, hbi⟩ : ∃ x : Int, (b : Int) = x := ⟨_, rfl⟩
          have HBI := hide hbi
          have HB0 := hide hb0
          have qb0 : ¬ 0 < bi := by omega
          have qb1 : 0 ≤ bi := by omega
          have qb2 : bi ≤ 255 := by omega
          rw [hbi] at hw8 ⊢
          clear hb0 hbi
          have HRY := hide (rs_new hlt hh h0)
          have hen := enR_bd [x0, x1, x2, x3] (b := b) (by omega)
          obtain ⟨E, hE⟩ : ∃ E, enR [x0, x1, x2, x3] b = E := ⟨_, rfl⟩
          rw [hE] at hen HRY
          have HE := hide hE
          clear hh h0 hE
          go_wp2_with fail
          obtain ⟨wo, hwo⟩ : ∃ wo : World, wo = wr := ⟨_, rfl⟩
          clear hwo
          go_loopw [6] (fun cv wr => ∃ c : Nat, cv = .int .i64 (c : Int) ∧ b ≤ c ∧ c ≤ E ∧ Hid (enR [x0, x1, x2, x3] c = E) ∧ Hid (StS w wr [x0, x1, x2, x3])) (fun cv _ => 256 - (intOf cv).toNat)
          case atStart => exact ⟨b, by rw [HBI.out], by omega, by omega, HE, HB1⟩
          case round =>
            clear HB1
            obtain ⟨c, rfl, hbc, hcE, HEc, HB⟩ := hrel
            have a0 := HB.out.1.cell (i := 0) rfl
            have a1 := HB.out.1.cell (i := 1) rfl
            have a2 := HB.out.1.cell (i := 2) rfl
            have a3 := HB.out.1.cell (i := 3) rfl
            by_cases hc5 : c < 255
            · have qc5 : (c : Int) < 255 := by omega
              have hw81 : IntKind.u8.wrap ((c : Int) + 1) = ((c + 1 : Nat) : Int) := u8_in (b := c + 1) (by omega)
              have HC := hide (rhas_any x0 x1 x2 x3 (c + 1) wr HS.out (by omega))
              cases hh : hasS [x0, x1, x2, x3] (c + 1) with
              | true =>
                rw [hh] at HC
                have HE2 := hide (show enR [x0, x1, x2, x3] (c + 1) = E by rw [← enR_go hc5 hh]; exact HEc.out)
                have hce2 : c + 1 ≤ E := by have h1 := enR_bd [x0, x1, x2, x3] (b := c + 1) (by omega); have h2 := HE2.out; omega
                clear hh
                go_wp2_with fail
                refine HC.out.mono ?_; rintro e w2 ⟨rfl, hb2⟩
                have HB2 := hide (HB.out.low hb2)
                clear hb2 HB HC a0 a1 a2 a3
                go_wp2
                go_roundw
                case rel => exact ⟨c + 1, by go_num, by omega, by omega, HE2, HB2⟩
                case measure => simp [intOf]; omega
              | false =>
                rw [hh] at HC
                obtain rfl : c = E := by rw [← HEc.out, enR_no hh]
                clear hh
                go_wp2_with fail
                refine HC.out.mono ?_; rintro e w9 ⟨rfl, hb9⟩
                have HB := hide (HB.out.low hb9)
                clear hb9 HC hw81
                have hw9 := u8_in (show c < 256 by omega)
                have z1 : (⟨(shownE b).toArray⟩ : ByteArray).size ≤ 4 := by rw [bd_size]; exact shownE_len b
                have HS1 := hide (byte1_any b)
                obtain ⟨s1, hs1⟩ : ∃ s : ByteArray, ⟨(shownE b).toArray⟩ = s := ⟨_, rfl⟩
                have HC1 := hide (show ∀ W, Calls Tryd.prog 58 #[.int .u8 bi] W fun e w' => e = .returned (.string s1) ∧ Below W.heap.size W w' from fun W => by rw [← hs1, ← HBI.out]; exact HS1.out W hlt)
                have HS1E := hide hs1
                rw [hs1] at z1
                clear hs1
                go_wp2_with fail
                refine (HC1.out _).mono ?_; rintro e w2 ⟨rfl, hb2⟩
                have HB2 := hide (HB.out.low hb2)
                clear hb2 HB HC1 a0 a1 a2 a3
                have y1 : (s ++ s1).size ≤ 2308 := by rw [ByteArray.size_append]; omega
                by_cases hcb : b < c
                · have qcb : bi < (c : Int) := by omega
                  have HSP := hide (span_three hcb s)
                  have z2 : (⟨(shownE c).toArray⟩ : ByteArray).size ≤ 4 := by rw [bd_size]; exact shownE_len c
                  have HC2 := hide (byte1_any c w2 (by omega))
                  obtain ⟨s2, hs2⟩ : ∃ s : ByteArray, ⟨(shownE c).toArray⟩ = s := ⟨_, rfl⟩
                  have HC2 := hide (show Calls Tryd.prog 58 #[.int .u8 (c : Int)] w2 fun e w' => e = .returned (.string s2) ∧ Below w2.heap.size w2 w' from by rw [← hs2]; exact HC2.out)
                  rw [HS1E.out, hs2] at HSP
                  rw [hs2] at z2
                  have y2 : (s ++ s1 ++ ⟨#[45]⟩).size ≤ 2309 := by rw [ByteArray.size_append]; have : (⟨#[45]⟩ : ByteArray).size = 1 := rfl; omega
                  have y3 : (⟨#[45]⟩ : ByteArray).size = 1 := rfl
                  have Y4 := hide (show (s ++ s1 ++ ⟨#[45]⟩ ++ s2).size ≤ 9 * (b + 1) by rw [ByteArray.size_append, ByteArray.size_append, ByteArray.size_append]; have := HSZ.out; omega)
                  have y5 : (s ++ s1 ++ ⟨#[45]⟩ ++ s2).size ≤ 2330 := by rw [ByteArray.size_append, ByteArray.size_append, ByteArray.size_append]; omega
                  clear hs2 hcb
                  go_wp2_with fail
                  refine HC2.out.mono ?_; rintro e w3 ⟨rfl, hb3⟩
                  have HB3 := hide (HB2.out.low hb3)
                  clear hb3 HB2 HC2
                  go_wp2
                  go_roundw
                  case rel => exact ⟨b + 1, k + 1, _, R ++ [(b, c)], by rw [← HBI.out]; go_num, by go_num, rfl, by omega, by have := HKR.out.1; omega, by have := HKR.out.2; simp; omega, Y4.out, hide (by rw [txtR_app, HT.out]; exact HSP.out.symm), HK2, hide (by rw [List.append_assoc]; show R ++ ((b, c) :: rsR [x0, x1, x2, x3] (b + 1)) = _; rw [← HRY.out]; exact HR.out), HB3⟩
                  case measure => rw [← HBI.out]; simp [intOf]; omega
                · have qcb : ¬ bi < (c : Int) := by have := HBI.out; omega
                  obtain rfl : b = c := by omega
                  have Y4 := hide (show (s ++ s1).size ≤ 9 * (b + 1) by rw [ByteArray.size_append]; have := HSZ.out; omega)
                  clear hcb
                  go_wp2
                  go_roundw
                  case rel => exact ⟨b + 1, k + 1, _, R ++ [(b, b)], by rw [← HBI.out]; go_num, by go_num, rfl, by omega, by have := HKR.out.1; omega, by have := HKR.out.2; simp; omega, Y4.out, hide (by rw [txtR_app, HT.out, span_one, HS1E.out]), HK2, hide (by rw [List.append_assoc]; show R ++ ((b, b) :: rsR [x0, x1, x2, x3] (b + 1)) = _; rw [← HRY.out]; exact HR.out), HB2⟩
                  case measure => rw [← HBI.out]; simp [intOf]; omega
            · have qc5 : ¬ (c : Int) < 255 := by omega
              obtain rfl : c = E := by rw [← HEc.out, enR_last hc5]
              have hw9 := u8_in (show c < 256 by omega)
              have z1 : (⟨(shownE b).toArray⟩ : ByteArray).size ≤ 4 := by rw [bd_size]; exact shownE_len b
              have HS1 := hide (byte1_any b)
              obtain ⟨s1, hs1⟩ : ∃ s : ByteArray, ⟨(shownE b).toArray⟩ = s := ⟨_, rfl⟩
              have HC1 := hide (show ∀ W, Calls Tryd.prog 58 #[.int .u8 bi] W fun e w' => e = .returned (.string s1) ∧ Below W.heap.size W w' from fun W => by rw [← hs1, ← HBI.out]; exact HS1.out W hlt)
              have HS1E := hide hs1
              rw [hs1] at z1
              clear hs1
              go_wp2_with fail
              refine (HC1.out _).mono ?_; rintro e w2 ⟨rfl, hb2⟩
              have HB2 := hide (HB.out.low hb2)
              clear hb2 HB HC1 a0 a1 a2 a3
              have y1 : (s ++ s1).size ≤ 2308 := by rw [ByteArray.size_append]; omega
              by_cases hcb : b < c
              · have qcb : bi < (c : Int) := by omega
                have HSP := hide (span_three hcb s)
                have z2 : (⟨(shownE c).toArray⟩ : ByteArray).size ≤ 4 := by rw [bd_size]; exact shownE_len c
                have HC2 := hide (byte1_any c w2 (by omega))
                obtain ⟨s2, hs2⟩ : ∃ s : ByteArray, ⟨(shownE c).toArray⟩ = s := ⟨_, rfl⟩
                have HC2 := hide (show Calls Tryd.prog 58 #[.int .u8 (c : Int)] w2 fun e w' => e = .returned (.string s2) ∧ Below w2.heap.size w2 w' from by rw [← hs2]; exact HC2.out)
                rw [HS1E.out, hs2] at HSP
                rw [hs2] at z2
                have y2 : (s ++ s1 ++ ⟨#[45]⟩).size ≤ 2309 := by rw [ByteArray.size_append]; have : (⟨#[45]⟩ : ByteArray).size = 1 := rfl; omega
                have y3 : (⟨#[45]⟩ : ByteArray).size = 1 := rfl
                have Y4 := hide (show (s ++ s1 ++ ⟨#[45]⟩ ++ s2).size ≤ 9 * (b + 1) by rw [ByteArray.size_append, ByteArray.size_append, ByteArray.size_append]; have := HSZ.out; omega)
                have y5 : (s ++ s1 ++ ⟨#[45]⟩ ++ s2).size ≤ 2330 := by rw [ByteArray.size_append, ByteArray.size_append, ByteArray.size_append]; omega
                clear hs2 hcb
                go_wp2_with fail
                refine HC2.out.mono ?_; rintro e w3 ⟨rfl, hb3⟩
                have HB3 := hide (HB2.out.low hb3)
                clear hb3 HB2 HC2
                go_wp2
                go_roundw
                case rel => exact ⟨b + 1, k + 1, _, R ++ [(b, c)], by rw [← HBI.out]; go_num, by go_num, rfl, by omega, by have := HKR.out.1; omega, by have := HKR.out.2; simp; omega, Y4.out, hide (by rw [txtR_app, HT.out]; exact HSP.out.symm), HK2, hide (by rw [List.append_assoc]; show R ++ ((b, c) :: rsR [x0, x1, x2, x3] (b + 1)) = _; rw [← HRY.out]; exact HR.out), HB3⟩
                case measure => rw [← HBI.out]; simp [intOf]; omega
              · have qcb : ¬ bi < (c : Int) := by have := HBI.out; omega
                exfalso; have := HB0.out; omega
        · have qb0 : (0 : Int) < (b : Int) := by omega
          obtain ⟨d, hdb⟩ : ∃ d, b = d + 1 := ⟨b - 1, by omega⟩
          have hwd : IntKind.u8.wrap (d : Int) = (d : Int) := u8_in (by omega)
          have HC := hide (rhas_any x0 x1 x2 x3 d w1 HS.out (by omega))
          have a0 := HB1.out.1.cell (i := 0) rfl
          have a1 := HB1.out.1.cell (i := 1) rfl
          have a2 := HB1.out.1.cell (i := 2) rfl
          have a3 := HB1.out.1.cell (i := 3) rfl
          have hsub : (b : Int) - 1 = (d : Int) := by omega
          have HDB := hide hdb
          clear hdb
          cases hd : hasS [x0, x1, x2, x3] d with
          | true =>
            rw [hd] at HC
            have HR2 := hide (show R ++ rsR [x0, x1, x2, x3] (b + 1) = scR [x0, x1, x2, x3] 0 by have h1 := HR.out; have h2 := HDB.out; subst h2; rw [← rs_in (by omega) hd hh]; exact h1)
            clear hd hh
            go_wp2_with fail
            refine HC.out.mono ?_; rintro e w2 ⟨rfl, hb2⟩
            have HB2 := hide (HB1.out.low hb2)
            clear hb2 HB1 HC a0 a1 a2 a3 hb0
            go_wp2
            go_roundw
            case rel => exact ⟨b + 1, k + 1, s, R, by go_num, by go_num, rfl, by omega, by have := HKR.out.1; omega, by have := HKR.out.2; omega, by have := HSZ.out; omega, HT, HK2, HR2, HB2⟩
            case measure => simp [intOf]; omega
          | false =>
            rw [hd] at HC
            have h0 : b = 0 ∨ hasS [x0, x1, x2, x3] (b - 1) = false := .inr (by rw [show b - 1 = d by have := HDB.out; omega]; exact hd)
            clear hd
            go_wp2_with fail
            refine HC.out.mono ?_; rintro e w2 ⟨rfl, hb2⟩
            replace HB1 := hide (HB1.out.low hb2)
            clear hb2 HC a0 a1 a2 a3 hb0 hsub
            have HRY := hide (rs_new hlt hh h0)
            have hen := enR_bd [x0, x1, x2, x3] (b := b) (by omega)
            obtain ⟨E, hE⟩ : ∃ E, enR [x0, x1, x2, x3] b = E := ⟨_, rfl⟩
            rw [hE] at hen HRY
            have HE := hide hE
            clear hh h0 hE
            go_wp2_with fail
            obtain ⟨wo, hwo⟩ : ∃ wo : World, wo = wr := ⟨_, rfl⟩
            clear hwo
            go_loopw [6] (fun cv wr => ∃ c : Nat, cv = .int .i64 (c : Int) ∧ b ≤ c ∧ c ≤ E ∧ Hid (enR [x0, x1, x2, x3] c = E) ∧ Hid (StS w wr [x0, x1, x2, x3])) (fun cv _ => 256 - (intOf cv).toNat)
            case atStart => exact ⟨b, rfl, by omega, by omega, HE, HB1⟩
            case round =>
              clear HB1
              obtain ⟨c, rfl, hbc, hcE, HEc, HB⟩ := hrel
              have a0 := HB.out.1.cell (i := 0) rfl
              have a1 := HB.out.1.cell (i := 1) rfl
              have a2 := HB.out.1.cell (i := 2) rfl
              have a3 := HB.out.1.cell (i := 3) rfl
              by_cases hc5 : c < 255
              · have qc5 : (c : Int) < 255 := by omega
                have hw81 : IntKind.u8.wrap ((c : Int) + 1) = ((c + 1 : Nat) : Int) := u8_in (b := c + 1) (by omega)
                have HC := hide (rhas_any x0 x1 x2 x3 (c + 1) wr HS.out (by omega))
                cases hh : hasS [x0, x1, x2, x3] (c + 1) with
                | true =>
                  rw [hh] at HC
                  have HE2 := hide (show enR [x0, x1, x2, x3] (c + 1) = E by rw [← enR_go hc5 hh]; exact HEc.out)
                  have hce2 : c + 1 ≤ E := by have h1 := enR_bd [x0, x1, x2, x3] (b := c + 1) (by omega); have h2 := HE2.out; omega
                  clear hh
                  go_wp2_with fail
                  refine HC.out.mono ?_; rintro e w2 ⟨rfl, hb2⟩
                  have HB2 := hide (HB.out.low hb2)
                  clear hb2 HB HC a0 a1 a2 a3
                  go_wp2
                  go_roundw
                  case rel => exact ⟨c + 1, by go_num, by omega, by omega, HE2, HB2⟩
                  case measure => simp [intOf]; omega
                | false =>
                  rw [hh] at HC
                  obtain rfl : c = E := by rw [← HEc.out, enR_no hh]
                  clear hh
                  go_wp2_with fail
                  refine HC.out.mono ?_; rintro e w9 ⟨rfl, hb9⟩
                  have HB := hide (HB.out.low hb9)
                  clear hb9 HC hw81
                  have hw9 := u8_in (show c < 256 by omega)
                  have z1 : (⟨(shownE b).toArray⟩ : ByteArray).size ≤ 4 := by rw [bd_size]; exact shownE_len b
                  have HS1 := hide (byte1_any b)
                  obtain ⟨s1, hs1⟩ : ∃ s : ByteArray, ⟨(shownE b).toArray⟩ = s := ⟨_, rfl⟩
                  have HC1 := hide (show ∀ W, Calls Tryd.prog 58 #[.int .u8 (b : Int)] W fun e w' => e = .returned (.string s1) ∧ Below W.heap.size W w' from fun W => by rw [← hs1]; exact HS1.out W hlt)
                  have HS1E := hide hs1
                  rw [hs1] at z1
                  clear hs1
                  go_wp2_with fail
                  refine (HC1.out _).mono ?_; rintro e w2 ⟨rfl, hb2⟩
                  have HB2 := hide (HB.out.low hb2)
                  clear hb2 HB HC1 a0 a1 a2 a3
                  have y1 : (s ++ s1).size ≤ 2308 := by rw [ByteArray.size_append]; omega
                  by_cases hcb : b < c
                  · have qcb : (b : Int) < (c : Int) := by omega
                    have HSP := hide (span_three hcb s)
                    have z2 : (⟨(shownE c).toArray⟩ : ByteArray).size ≤ 4 := by rw [bd_size]; exact shownE_len c
                    have HC2 := hide (byte1_any c w2 (by omega))
                    obtain ⟨s2, hs2⟩ : ∃ s : ByteArray, ⟨(shownE c).toArray⟩ = s := ⟨_, rfl⟩
                    have HC2 := hide (show Calls Tryd.prog 58 #[.int .u8 (c : Int)] w2 fun e w' => e = .returned (.string s2) ∧ Below w2.heap.size w2 w' from by rw [← hs2]; exact HC2.out)
                    rw [HS1E.out, hs2] at HSP
                    rw [hs2] at z2
                    have y2 : (s ++ s1 ++ ⟨#[45]⟩).size ≤ 2309 := by rw [ByteArray.size_append]; have : (⟨#[45]⟩ : ByteArray).size = 1 := rfl; omega
                    have y3 : (⟨#[45]⟩ : ByteArray).size = 1 := rfl
                    have Y4 := hide (show (s ++ s1 ++ ⟨#[45]⟩ ++ s2).size ≤ 9 * (b + 1) by rw [ByteArray.size_append, ByteArray.size_append, ByteArray.size_append]; have := HSZ.out; omega)
                    have y5 : (s ++ s1 ++ ⟨#[45]⟩ ++ s2).size ≤ 2330 := by rw [ByteArray.size_append, ByteArray.size_append, ByteArray.size_append]; omega
                    clear hs2 hcb
                    go_wp2_with fail
                    refine HC2.out.mono ?_; rintro e w3 ⟨rfl, hb3⟩
                    have HB3 := hide (HB2.out.low hb3)
                    clear hb3 HB2 HC2
                    go_wp2
                    go_roundw
                    case rel => exact ⟨b + 1, k + 1, _, R ++ [(b, c)], by go_num, by go_num, rfl, by omega, by have := HKR.out.1; omega, by have := HKR.out.2; simp; omega, Y4.out, hide (by rw [txtR_app, HT.out]; exact HSP.out.symm), HK2, hide (by rw [List.append_assoc]; show R ++ ((b, c) :: rsR [x0, x1, x2, x3] (b + 1)) = _; rw [← HRY.out]; exact HR.out), HB3⟩
                    case measure => simp [intOf]; omega
                  · have qcb : ¬ (b : Int) < (c : Int) := by omega
                    obtain rfl : b = c := by omega
                    have Y4 := hide (show (s ++ s1).size ≤ 9 * (b + 1) by rw [ByteArray.size_append]; have := HSZ.out; omega)
                    clear hcb
                    go_wp2
                    go_roundw
                    case rel => exact ⟨b + 1, k + 1, _, R ++ [(b, b)], by go_num, by go_num, rfl, by omega, by have := HKR.out.1; omega, by have := HKR.out.2; simp; omega, Y4.out, hide (by rw [txtR_app, HT.out, span_one, HS1E.out]), HK2, hide (by rw [List.append_assoc]; show R ++ ((b, b) :: rsR [x0, x1, x2, x3] (b + 1)) = _; rw [← HRY.out]; exact HR.out), HB2⟩
                    case measure => simp [intOf]; omega
              · have qc5 : ¬ (c : Int) < 255 := by omega
                obtain rfl : c = E := by rw [← HEc.out, enR_last hc5]
                have hw9 := u8_in (show c < 256 by omega)
                have z1 : (⟨(shownE b).toArray⟩ : ByteArray).size ≤ 4 := by rw [bd_size]; exact shownE_len b
                have HS1 := hide (byte1_any b)
                obtain ⟨s1, hs1⟩ : ∃ s : ByteArray, ⟨(shownE b).toArray⟩ = s := ⟨_, rfl⟩
                have HC1 := hide (show ∀ W, Calls Tryd.prog 58 #[.int .u8 (b : Int)] W fun e w' => e = .returned (.string s1) ∧ Below W.heap.size W w' from fun W => by rw [← hs1]; exact HS1.out W hlt)
                have HS1E := hide hs1
                rw [hs1] at z1
                clear hs1
                go_wp2_with fail
                refine (HC1.out _).mono ?_; rintro e w2 ⟨rfl, hb2⟩
                have HB2 := hide (HB.out.low hb2)
                clear hb2 HB HC1 a0 a1 a2 a3
                have y1 : (s ++ s1).size ≤ 2308 := by rw [ByteArray.size_append]; omega
                by_cases hcb : b < c
                · have qcb : (b : Int) < (c : Int) := by omega
                  have HSP := hide (span_three hcb s)
                  have z2 : (⟨(shownE c).toArray⟩ : ByteArray).size ≤ 4 := by rw [bd_size]; exact shownE_len c
                  have HC2 := hide (byte1_any c w2 (by omega))
                  obtain ⟨s2, hs2⟩ : ∃ s : ByteArray, ⟨(shownE c).toArray⟩ = s := ⟨_, rfl⟩
                  have HC2 := hide (show Calls Tryd.prog 58 #[.int .u8 (c : Int)] w2 fun e w' => e = .returned (.string s2) ∧ Below w2.heap.size w2 w' from by rw [← hs2]; exact HC2.out)
                  rw [HS1E.out, hs2] at HSP
                  rw [hs2] at z2
                  have y2 : (s ++ s1 ++ ⟨#[45]⟩).size ≤ 2309 := by rw [ByteArray.size_append]; have : (⟨#[45]⟩ : ByteArray).size = 1 := rfl; omega
                  have y3 : (⟨#[45]⟩ : ByteArray).size = 1 := rfl
                  have Y4 := hide (show (s ++ s1 ++ ⟨#[45]⟩ ++ s2).size ≤ 9 * (b + 1) by rw [ByteArray.size_append, ByteArray.size_append, ByteArray.size_append]; have := HSZ.out; omega)
                  have y5 : (s ++ s1 ++ ⟨#[45]⟩ ++ s2).size ≤ 2330 := by rw [ByteArray.size_append, ByteArray.size_append, ByteArray.size_append]; omega
                  clear hs2 hcb
                  go_wp2_with fail
                  refine HC2.out.mono ?_; rintro e w3 ⟨rfl, hb3⟩
                  have HB3 := hide (HB2.out.low hb3)
                  clear hb3 HB2 HC2
                  go_wp2
                  go_roundw
                  case rel => exact ⟨b + 1, k + 1, _, R ++ [(b, c)], by go_num, by go_num, rfl, by omega, by have := HKR.out.1; omega, by have := HKR.out.2; simp; omega, Y4.out, hide (by rw [txtR_app, HT.out]; exact HSP.out.symm), HK2, hide (by rw [List.append_assoc]; show R ++ ((b, c) :: rsR [x0, x1, x2, x3] (b + 1)) = _; rw [← HRY.out]; exact HR.out), HB3⟩
                  case measure => simp [intOf]; omega
                · have qcb : ¬ (b : Int) < (c : Int) := by omega
                  obtain rfl : b = c := by omega
                  have Y4 := hide (show (s ++ s1).size ≤ 9 * (b + 1) by rw [ByteArray.size_append]; have := HSZ.out; omega)
                  clear hcb
                  go_wp2
                  go_roundw
                  case rel => exact ⟨b + 1, k + 1, _, R ++ [(b, b)], by go_num, by go_num, rfl, by omega, by have := HKR.out.1; omega, by have := HKR.out.2; simp; omega, Y4.out, hide (by rw [txtR_app, HT.out, span_one, HS1E.out]), HK2, hide (by rw [List.append_assoc]; show R ++ ((b, b) :: rsR [x0, x1, x2, x3] (b + 1)) = _; rw [← HRY.out]; exact HR.out), HB2⟩
                  case measure => simp [intOf]; omega

    · obtain rfl : b = 256 := by omega
      clear a0 a1 a2 a3
      have hR := HR.out
      rw [rs_end, List.append_nil] at hR
      have hM : manyR R = k := by
        have h1 := HK.out
        rw [hR, many_cB _ 256 0 (by omega), ← h1]
        unfold cB
        rw [show 256 - 256 = 0 from rfl]; rfl
      have HX := hide (show spansE [x0, x1, x2, x3] = if k = 0 then noneT else if k = 1 then R.flatMap spanT else 91 :: (R.flatMap spanT ++ [93]) by unfold spansE; rw [← hR, hM])
      clear hR hM
      by_cases h0 : k = 0
      · subst h0
        go_wp2
        go_ret
        exact StrP.mk (by rw [HX.out]; rfl) rfl HB.out.2
      have q0 : ((k : Int) == 0) = false := by simp; omega
      by_cases h1 : k = 1
      · subst h1
        go_wp2
        go_ret
        exact StrP.mk (by rw [HX.out, ← HT.out]; rfl) rfl HB.out.2
      have q1 : ((k : Int) == 1) = false := by simp; omega
      have y1 : ((⟨#[91]⟩ : ByteArray) ++ s).size ≤ 2305 := by rw [ByteArray.size_append]; have : (⟨#[91]⟩ : ByteArray).size = 1 := rfl; omega
      have y2 : (⟨#[91]⟩ : ByteArray).size = 1 := rfl
      have y3 : (⟨#[93]⟩ : ByteArray).size = 1 := rfl
      have HXX := hide (show (⟨#[91]⟩ : ByteArray) ++ s ++ ⟨#[93]⟩ = ⟨(spansE [x0, x1, x2, x3]).toArray⟩ by
        rw [HX.out, if_neg h0, if_neg h1, ← HT.out, show (⟨#[91]⟩ : ByteArray) = ⟨[91].toArray⟩ from rfl, show (⟨#[93]⟩ : ByteArray) = ⟨[93].toArray⟩ from rfl]; unfold txtR; rw [toArr_app, toArr_app]; rfl)
      clear h0 h1
      go_wp2
      go_ret
      exact StrP.mk HXX.out rfl HB.out.2
end Go.Proofs.YtfamoikmfbpigaaDoor
namespace Go.Proofs.YtfamoikmfbpigaaDoor
open Go.RowKit

theorem or_add (x r : Nat) (hx : x < 18446744073709551616) (hr : r < 64) (h : x.testBit r = false) : x + 2 ^ r = x ||| 2 ^ r := by
  have h3 : 2 ^ r < 2 ^ 64 := Nat.pow_lt_pow_right (by omega) hr
  have hand : x &&& 2 ^ r = 0 := by
    apply Nat.eq_of_testBit_eq
    intro i
    rw [Nat.testBit_and, Nat.testBit_two_pow, Nat.zero_testBit]
    by_cases e : r = i
    · subst e; rw [h]; simp
    · simp [e]
  have key := BitVec.add_eq_or_of_and_eq_zero (BitVec.ofNat 64 x) (BitVec.ofNat 64 (2 ^ r)) (by
    apply BitVec.eq_of_toNat_eq
    rw [BitVec.toNat_and, BitVec.toNat_ofNat, BitVec.toNat_ofNat, Nat.mod_eq_of_lt (by omega), Nat.mod_eq_of_lt h3, hand]; rfl)
  have := congrArg BitVec.toNat key
  rw [BitVec.toNat_add, BitVec.toNat_or, BitVec.toNat_ofNat, BitVec.toNat_ofNat, Nat.mod_eq_of_lt (show x < 2 ^ 64 by omega), Nat.mod_eq_of_lt h3] at this
  have hlt : x ||| 2 ^ r < 2 ^ 64 := Nat.or_lt_two_pow (by omega) h3
  have hle : x + 2 ^ r < 2 ^ 64 := by
    by_cases hc : x + 2 ^ r < 2 ^ 64
    · exact hc
    · exfalso
      have h5 : (x + 2 ^ r) % 2 ^ 64 = x + 2 ^ r - 2 ^ 64 := by omega
      rw [h5] at this
      have h6 : x ≤ x ||| 2 ^ r := Nat.left_le_or
      omega
  rw [Nat.mod_eq_of_lt hle] at this
  exact this
theorem pow_wrap (r : Nat) (hr : r < 64) : IntKind.u64.wrap ((2 : Int) ^ r) = ((2 ^ r : Nat) : Int) := by
  have h3 : 2 ^ r < 2 ^ 64 := Nat.pow_lt_pow_right (by omega) hr
  rw [show (2 : Int) ^ r = ((2 ^ r : Nat) : Int) by push_cast; rfl]
  obtain ⟨y, hy⟩ : ∃ y, 2 ^ r = y := ⟨_, rfl⟩
  rw [hy] at h3 ⊢
  simp [IntKind.wrap_u64]
  omega
theorem add_pow (x r : Nat) (hx : x < 18446744073709551616) (hr : r < 64) (h : x.testBit r = false) : IntKind.u64.wrap ((x : Int) + IntKind.u64.wrap ((2 : Int) ^ r)) = ((x ||| 2 ^ r : Nat) : Int) := by
  rw [pow_wrap r hr, ← or_add x r hx hr h]
  have hlt : x ||| 2 ^ r < 2 ^ 64 := Nat.or_lt_two_pow (by omega) (Nat.pow_lt_pow_right (by omega) hr)
  rw [← or_add x r hx hr h] at hlt
  obtain ⟨y, hy⟩ : ∃ y, 2 ^ r = y := ⟨_, rfl⟩
  rw [hy] at hlt ⊢
  simp only [IntKind.wrap_u64]
  omega
theorem or_same (x r : Nat) (h : x.testBit r = true) : x ||| 2 ^ r = x := by
  apply Nat.eq_of_testBit_eq
  intro i
  rw [Nat.testBit_or, Nat.testBit_two_pow]
  by_cases e : r = i
  · subst e; rw [h]; rfl
  · simp [e]
theorem bit_same {S : List Nat} {b x : Nat} (hx : S[b / 64]? = some x) (h : hasS S b = true) : bitS S b = S := by
  unfold hasS at h
  rw [hx] at h
  unfold bitS
  rw [hx, Option.getD_some, or_same x _ h]
  obtain ⟨h1, h2⟩ := List.getElem?_eq_some_iff.1 hx
  rw [← h2]
  exact List.set_getElem_self h1
theorem u4_set {S : List Nat} {q y : Nat} : (u4 S).set q (.int .u64 (y : Int)) = u4 (S.set q y) := by simp [u4, List.map_set]
/-- with's two boxes. -/
structure WiS (w W : World) (S : List Nat) : Prop where
  b1 : Blk W w.heap.size 24 (u4 S)
  b2 : Blk W (w.heap.size + 1) 24 (u4 noSet)
  below : Below w.heap.size w W
theorem WiS.low {w W V : World} {S : List Nat} (h : WiS w W S) (hb : Below W.heap.size W V) : WiS w V S := ⟨h.b1.below hb, h.b2.below hb, h.below.trans (hb.mono h.below.size)⟩
theorem WiS.set {w W : World} {S : List Nat} (h : WiS w W S) (q y : Nat) : WiS w (W.setCell ⟨w.heap.size, q, none⟩ (.int .u64 (y : Int))) (S.set q y) :=
  ⟨by rw [← u4_set]; exact h.b1.set q _, h.b2.far (by simp) _, h.below.setCell (p := ⟨w.heap.size, q, none⟩) (Nat.le_refl _) _⟩
theorem wi_new (w : World) (S : List Nat) : WiS w ((w.alloc (.cells (u4 S).toArray 24)).alloc (.cells (u4 noSet).toArray 24)) S := by
  obtain ⟨h1, h2, h3⟩ := two_box w 24 24 (u4 S) (u4 noSet)
  exact ⟨h1, h2, h3⟩
def arrSet (W : World) (z y0 y1 y2 y3 : Nat) : World := (((W.setCell ⟨z, 0, none⟩ (.int .u64 (y0 : Int))).setCell ⟨z, 1, none⟩ (.int .u64 (y1 : Int))).setCell ⟨z, 2, none⟩ (.int .u64 (y2 : Int))).setCell ⟨z, 3, none⟩ (.int .u64 (y3 : Int))
theorem arr_put {W : World} {z : Nat} (h : Blk W z 24 (u4 noSet)) (y0 y1 y2 y3 : Nat) : Blk (arrSet W z y0 y1 y2 y3) z 24 (u4 [y0, y1, y2, y3]) :=
  (((h.set 0 (.int .u64 (y0 : Int))).set 1 (.int .u64 (y1 : Int))).set 2 (.int .u64 (y2 : Int))).set 3 (.int .u64 (y3 : Int))
theorem arr_keep {w W : World} {z : Nat} (h : Below w.heap.size w W) (hz : w.heap.size ≤ z) (y0 y1 y2 y3 : Nat) : Below w.heap.size w (arrSet W z y0 y1 y2 y3) :=
  (((h.setCell (p := ⟨z, 0, none⟩) hz _).setCell (p := ⟨z, 1, none⟩) hz _).setCell (p := ⟨z, 2, none⟩) hz _).setCell (p := ⟨z, 3, none⟩) hz _
set_option maxHeartbeats 2000000 in
set_option maxRecDepth 100000 in
theorem rwith_any (x0 x1 x2 x3 a b : Nat) (w : World) (hS : W64 [x0, x1, x2, x3]) (ha : a < 256) (hb : b < 256) :
    Calls Tryd.prog 52 #[.agg (u4 [x0, x1, x2, x3]).toArray, .int .i64 (a : Int), .int .i64 (b : Int)] w fun e w' => e = .returned (.agg (u4 (spanS [x0, x1, x2, x3] a (b + 1 - a))).toArray) ∧ Below w.heap.size w w' := by
  have H0 := hide (wi_new w [x0, x1, x2, x3])
  have HS := hide hS
  clear hS
  rw [show (u4 [x0, x1, x2, x3]).toArray = #[.int .u64 (x0 : Int), .int .u64 (x1 : Int), .int .u64 (x2 : Int), .int .u64 (x3 : Int)] from rfl, show (u4 noSet).toArray = #[.int .u64 0, .int .u64 0, .int .u64 0, .int .u64 0] from rfl] at H0
  rw [show (u4 [x0, x1, x2, x3]).toArray = #[.int .u64 (x0 : Int), .int .u64 (x1 : Int), .int .u64 (x2 : Int), .int .u64 (x3 : Int)] from rfl]
  go_enter Tryd.func52, Tryd.ntmps52
  go_wp2
  go_loopw [7] (fun iv wr => ∃ j : Nat, iv = .int .i64 ((a + j : Nat) : Int) ∧ j ≤ b + 1 - a ∧ Hid (WiS w wr (spanS [x0, x1, x2, x3] a j))) (fun iv _ => b + 1 - (intOf iv).toNat)
  case atStart => exact ⟨0, rfl, by omega, H0⟩
  case round =>
    clear H0
    obtain ⟨j, rfl, hj, H⟩ := hrel
    obtain ⟨i, hi⟩ : ∃ i, a + j = i := ⟨_, rfl⟩
    rw [hi]
    have hsw := spanS_w HS.out a j
    obtain ⟨S, hSS⟩ : ∃ S, spanS [x0, x1, x2, x3] a j = S := ⟨_, rfl⟩
    have HSN0 := hide (show spanS [x0, x1, x2, x3] a (j + 1) = bitS S i by rw [spanS, hSS, hi])
    have HSE := hide hSS
    rw [hSS] at H hsw
    clear hSS
    obtain ⟨y0, y1, y2, y3, rfl⟩ := four hsw.1
    have c0 := H.out.b1.cell (i := 0) rfl
    have c1 := H.out.b1.cell (i := 1) rfl
    have c2 := H.out.b1.cell (i := 2) rfl
    have c3 := H.out.b1.cell (i := 3) rfl
    have HSW := hide hsw
    clear hsw
    by_cases hle : i ≤ b
    · have hle1 : (i : Int) ≤ (b : Int) := by omega
      have hib : i < 256 := by omega
      have hwu : IntKind.u8.wrap (i : Int) = (i : Int) := by simp only [IntKind.wrap_u8]; omega
      have HH := hide (fun W => rhas_any y0 y1 y2 y3 i W HSW.out hib)
      obtain ⟨q, hq⟩ : ∃ q, i / 64 = q := ⟨_, rfl⟩
      obtain ⟨r, hr⟩ : ∃ r, i % 64 = r := ⟨_, rfl⟩
      obtain ⟨x, hx⟩ : ∃ x, [y0, y1, y2, y3][q]? = some x := ⟨_, List.getElem?_eq_getElem (by simp; omega)⟩
      have hhas : hasS [y0, y1, y2, y3] i = x.testBit r := by unfold hasS; rw [hq, hr, hx]; rfl
      have HX := hide hx
      cases hv : hasS [y0, y1, y2, y3] i with
      | true =>
        rw [hv] at HH
        have HSN := hide (show spanS [x0, x1, x2, x3] a (j + 1) = [y0, y1, y2, y3] by rw [HSN0.out]; exact bit_same (by rw [hq]; exact hx) hv)
        have HJ := hide (show j + 1 ≤ b + 1 - a by omega)
        clear hv hx hhas hq hr HX
        go_wp2_with fail
        refine (HH.out _).mono ?_; rintro e w1 ⟨rfl, hb1⟩
        have H1 := hide (H.out.low hb1)
        clear hb1
        go_wp2
        exact ⟨⟨j + 1, by rw [← hi]; go_num, HJ.out, hide (by rw [HSN.out]; exact H1.out)⟩, by simp [intOf]; omega⟩
      | false =>
        rw [hv] at HH
        rw [hv] at hhas
        have hq4 : q < 4 := by omega
        have hr64 : r < 64 := by omega
        have HV := hide (add_pow x r (HSW.out.2 x (List.mem_of_getElem? hx)) hr64 hhas.symm)
        have HSN := hide (show spanS [x0, x1, x2, x3] a (j + 1) = ([y0, y1, y2, y3] : List Nat).set q (x ||| 2 ^ r) by rw [HSN0.out]; unfold bitS; rw [hq, hr, hx]; rfl)
        have HJ := hide (show j + 1 ≤ b + 1 - a by omega)
        have hqi : (i : Int) / 64 = (q : Int) := by omega
        have hri : (i : Int) % 64 = (r : Int) := by omega
        have hq0 : (0 : Int) ≤ (q : Int) := by omega
        have hq1 : (q : Int) < 4 := by omega
        have hr0 : (0 : Int) ≤ (r : Int) := by omega
        have hr1 : (r : Int) < 64 := by omega
        have hi0 : (0 : Int) ≤ (i : Int) := by omega
        clear hv hx hhas hq hr
        go_wp2_with fail
        refine (HH.out _).mono ?_; rintro e w1 ⟨rfl, hb1⟩
        have H1 := hide (H.out.low hb1)
        clear hb1
        have k0 := H1.out.b1.cell (u4_at HX.out)
        have kf := fun i => H1.out.b1.frozen i
        go_wp2_with fail
        go_region
        rw [HV.out]
        have H2 := hide (H1.out.set q (x ||| 2 ^ r))
        obtain ⟨X, hX⟩ : ∃ X, w1.setCell ⟨w.heap.size, q, none⟩ (.int .u64 ((x ||| 2 ^ r : Nat) : Int)) = X := ⟨_, rfl⟩
        rw [hX] at H2 ⊢
        have H3 := hide (H2.out.low ((Below.refl X.heap.size X).drew))
        go_wp2
        exact ⟨⟨j + 1, by rw [← hi]; go_num, HJ.out, hide (by rw [HSN.out]; exact H3.out)⟩, by simp [intOf]; omega⟩
    · have hle1 : ¬ (i : Int) ≤ (b : Int) := by omega
      have HJ := hide (show j = b + 1 - a by omega)
      have z0 := H.out.b2.cell (i := 0) rfl
      have z1 := H.out.b2.cell (i := 1) rfl
      have z2 := H.out.b2.cell (i := 2) rfl
      have z3 := H.out.b2.cell (i := 3) rfl
      have zf := fun i => H.out.b2.frozen i
      go_wp2
      refine bodyPost_ret (results_cell_row rfl _ _ (w.heap.size + 1) 24 (u4 [y0, y1, y2, y3]).toArray (0, 0) _ rfl (arr_put H.out.b2 y0 y1 y2 y3) Tryd.underlying24 rfl (by kernel_rfl)) rfl ?_
      exact ⟨by rw [← HJ.out, HSE.out], arr_keep H.out.below (by omega) y0 y1 y2 y3⟩
end Go.Proofs.YtfamoikmfbpigaaDoor
namespace Go.Proofs.YtfamoikmfbpigaaDoor
open Go.RowKit

/-- May a node be so, but for its kids? -/
def shapeB (k : Int) (S : List Nat) (n : Nat) : Bool :=
  (if k = 0 ∨ k = 1 then n == 0 else if k = 2 ∨ k = 3 then decide (2 ≤ n) else if 4 ≤ k ∧ k ≤ 6 then n == 1 else false) && (k == 1 || S == noSet)
def mayE : Nat → Nd → Bool
  | 0, _ => false
  | d + 1, .mk k S L => shapeB k S L.length && L.all (mayE d)
def BoolP (b : Bool) (w : World) (e : Ending) (w' : World) : Prop := e = .returned (.bool b) ∧ Below w.heap.size w w'
theorem BoolP.mk {a b : Bool} {w w' : World} {e : Ending} (h : a = b) (he : e = .returned (.bool b)) (hb : Below w.heap.size w w') : BoolP a w e w' := ⟨by rw [h]; exact he, hb⟩
theorem may_kid {d : Nat} {k : Int} {S : List Nat} {L : List Nd} {j : Nat} {x : Nd} (hx : L[j]? = some x) (h : mayE d x = false) : mayE (d + 1) (.mk k S L) = false := by
  unfold mayE
  rw [Bool.and_eq_false_iff]
  refine .inr (List.all_eq_false.2 ⟨x, List.mem_of_getElem? hx, by rw [h]; decide⟩)
theorem may_all {d : Nat} {k : Int} {S : List Nat} {L : List Nd} (hs : shapeB k S L.length = true) (h : ∀ (i : Nat) (x : Nd), L[i]? = some x → mayE d x = true) : mayE (d + 1) (.mk k S L) = true := by
  unfold mayE
  rw [List.all_eq_true.2 (fun x hx => by obtain ⟨i, hi⟩ := List.getElem?_of_mem hx; exact h i x hi), Bool.and_true, hs]
theorem may_shape {d : Nat} {k : Int} {S : List Nat} {L : List Nd} (h : shapeB k S L.length = false) : mayE d (.mk k S L) = false := by
  cases d with
  | zero => rfl
  | succ d => unfold mayE; rw [h, Bool.false_and]
theorem eq4_zero (x0 x1 x2 x3 : Nat) : eq4 (x0 : Int) x1 x2 x3 0 0 0 0 = ([x0, x1, x2, x3] == noSet) := by
  rw [Bool.eq_iff_iff]
  simp [eq4, noSet]
  omega
theorem shape_not {k : Int} {S : List Nat} {n : Nat} (h : ¬ (0 ≤ k ∧ k ≤ 6)) : shapeB k S n = false := by
  unfold shapeB
  rw [if_neg (by omega), if_neg (by omega), if_neg (by omega), Bool.false_and]
theorem shape_set {k : Int} {S : List Nat} {n : Nat} (h : k ≠ 1) (hs : (S == noSet) = false) : shapeB k S n = false := by
  unfold shapeB
  rw [hs, show (k == 1) = false by simpa using h]
  simp
theorem shape_n01 {k : Int} {S : List Nat} {n : Nat} (h : k = 0 ∨ k = 1) (hn : n ≠ 0) : shapeB k S n = false := by
  unfold shapeB
  rw [if_pos h, show (n == 0) = false by simpa using hn, Bool.false_and]
theorem shape_n23 {k : Int} {S : List Nat} {n : Nat} (h : k = 2 ∨ k = 3) (hn : n < 2) : shapeB k S n = false := by
  unfold shapeB
  rw [if_neg (by omega), if_pos h, decide_eq_false (by omega), Bool.false_and]
theorem shape_n46 {k : Int} {S : List Nat} {n : Nat} (h : k = 4 ∨ k = 5 ∨ k = 6) (hn : n ≠ 1) : shapeB k S n = false := by
  unfold shapeB
  rw [if_neg (by omega), if_neg (by omega), if_pos (by omega), show (n == 1) = false by simpa using hn, Bool.false_and]
theorem shape_y01 {k : Int} {S : List Nat} (h : k = 0 ∨ k = 1) (hs : k = 1 ∨ (S == noSet) = true) : shapeB k S 0 = true := by
  unfold shapeB
  rw [if_pos h]
  rcases hs with rfl | hs
  · rfl
  · rw [hs]; simp
theorem shape_y23 {k : Int} {S : List Nat} {n : Nat} (h : k = 2 ∨ k = 3) (hn : 2 ≤ n) (hs : (S == noSet) = true) : shapeB k S n = true := by
  unfold shapeB
  rw [if_neg (by omega), if_pos h, hs, decide_eq_true hn]; simp
theorem shape_y46 {k : Int} {S : List Nat} (h : k = 4 ∨ k = 5 ∨ k = 6) (hs : (S == noSet) = true) : shapeB k S 1 = true := by
  unfold shapeB
  rw [if_neg (by omega), if_neg (by omega), if_pos (by omega), hs]; simp
def okB (d : Nat) (k : Int) (S : List Nat) (n : Nat) : Bool := decide (0 < d) && shapeB k S n
theorem may_bad {d : Nat} {k : Int} {S : List Nat} {L : List Nd} (h : okB d k S L.length = false) : mayE d (.mk k S L) = false := by
  cases d with
  | zero => rfl
  | succ d =>
    unfold okB at h
    rw [decide_eq_true (Nat.succ_pos d), Bool.true_and] at h
    exact may_shape h
theorem ok_pos {d : Nat} {k : Int} {S : List Nat} {n : Nat} (h : okB d k S n = true) : ∃ e, d = e + 1 ∧ shapeB k S n = true := by
  unfold okB at h
  rw [Bool.and_eq_true] at h
  obtain ⟨h1, h2⟩ := h
  exact ⟨d - 1, by have := of_decide_eq_true h1; omega, h2⟩
theorem ok_zero {k : Int} {S : List Nat} {n : Nat} : okB 0 k S n = false := rfl
theorem ok_no {d : Nat} {k : Int} {S : List Nat} {n : Nat} (h : shapeB k S n = false) : okB d k S n = false := by unfold okB; rw [h, Bool.and_false]
theorem ok_yes {d : Nat} {k : Int} {S : List Nat} {n : Nat} (hd : 0 < d) (h : shapeB k S n = true) : okB d k S n = true := by unfold okB; rw [h, decide_eq_true hd]; rfl
/-- What the kind asks of the kids. -/
def KindL (k : Int) (m lo hi : Nat) : Prop := ((k = 0 ∨ k = 1) ∧ lo = 0 ∧ hi = 0) ∨ ((k = 2 ∨ k = 3) ∧ lo = 2 ∧ hi = m) ∨ ((k = 4 ∨ k = 5 ∨ k = 6) ∧ lo = 1 ∧ hi = 1)
theorem kind_no {k : Int} {S : List Nat} {m lo hi : Nat} (h : KindL k m lo hi) (hm : m < lo ∨ hi < m) : shapeB k S m = false := by
  rcases h with ⟨h, rfl, rfl⟩ | ⟨h, rfl, rfl⟩ | ⟨h, rfl, rfl⟩
  · exact shape_n01 h (by omega)
  · exact shape_n23 h (by omega)
  · exact shape_n46 h (by omega)
theorem kind_yes {k : Int} {S : List Nat} {m lo hi : Nat} (h : KindL k m lo hi) (h1 : lo ≤ m) (h2 : m ≤ hi) (hs : k = 1 ∨ (S == noSet) = true) : shapeB k S m = true := by
  rcases h with ⟨h, rfl, rfl⟩ | ⟨h, rfl, rfl⟩ | ⟨h, rfl, rfl⟩
  · obtain rfl : m = 0 := by omega
    exact shape_y01 h hs
  · exact shape_y23 h h1 (hs.resolve_left (by omega))
  · obtain rfl : m = 1 := by omega
    exact shape_y46 h (hs.resolve_left (by omega))
set_option maxHeartbeats 8000000 in
set_option maxRecDepth 100000 in
theorem may_any : ∀ (f : Nat) (n : Nd) (d : Nat) (cs : List Value) (P : Nat → Prop) (w : World), szN n < f → d ≤ 1000 → NdX P w n cs →
    Calls Tryd.prog 29 #[.agg cs.toArray, .int .i64 (d : Int)] w (BoolP (mayE d n) w)
  | 0, _, _, _, _, _, hf, _, _ => absurd hf (by omega)
  | f + 1, .mk k S L, d, cs, P, w, hf, hd, hn => by
    obtain ⟨x0, x1, x2, x3, A, cap, rfl, rfl, hw, hc, hcm, hkids⟩ := hn.parts
    have IH0 := hide (fun (d : Nat) (hd : d ≤ 1000) (n : Nd) (cs : List Value) (W : World) (h1 : szN n < f) (h2 : NdX P W n cs) => may_any f n d cs P W h1 hd h2)
    have HK := hide hkids
    obtain ⟨m, hm0⟩ : ∃ m, L.length = m := ⟨_, rfl⟩
    have HM := hide hm0
    have HF := hide (show szL L < f by unfold szN at hf; omega)
    have HB0 := hide (show Below w.heap.size w (w.alloc (.cells (ndL k [x0, x1, x2, x3] (.slice A m cap)).toArray 27)) from (Below.refl _ _).alloc (Nat.le_refl _) _)
    have HBL := hide (Blk.new w 27 (ndL k [x0, x1, x2, x3] (.slice A m cap)))
    have HE := hide (eq4_zero x0 x1 x2 x3)
    rw [hm0] at hc ⊢
    clear hn hkids hw hf hm0
    unfold maxLen at hcm
    rw [show (ndL k [x0, x1, x2, x3] (.slice A m cap)).toArray = #[.int .i64 k, .int .u64 (x0 : Int), .int .u64 (x1 : Int), .int .u64 (x2 : Int), .int .u64 (x3 : Int), .slice A m cap] from rfl]
    go_enter Tryd.func29, Tryd.ntmps29
    go_upto_block 0 with (fail)
    rw [show w.alloc (.cells #[.int .i64 k, .int .u64 (x0 : Int), .int .u64 (x1 : Int), .int .u64 (x2 : Int), .int .u64 (x3 : Int), .slice A m cap] 27) = w.alloc (.cells (ndL k [x0, x1, x2, x3] (.slice A m cap)).toArray 27) from rfl]
    obtain ⟨W0, hW0⟩ : ∃ W, w.alloc (.cells (ndL k [x0, x1, x2, x3] (.slice A m cap)).toArray 27) = W := ⟨_, rfl⟩
    rw [hW0] at HBL HB0 ⊢
    clear hW0
    have a0 := HBL.out.cell (i := 0) rfl
    have a1 := HBL.out.cell (i := 1) rfl
    have a2 := HBL.out.cell (i := 2) rfl
    have a3 := HBL.out.cell (i := 3) rfl
    have a4 := HBL.out.cell (i := 4) rfl
    have a5 := HBL.out.cell (i := 5) rfl
    go_cut [5, 6] (fun a b wx => ∃ lo hi : Nat, a = .int .i64 lo ∧ b = .int .i64 hi ∧ lo ≤ 2 ∧ Hid (KindL k m lo hi) ∧ Hid (Blk wx w.heap.size 27 (ndL k [x0, x1, x2, x3] (.slice A m cap))) ∧ Hid (Below w.heap.size w wx))
    case first =>
      by_cases hk0 : k = 0
      · subst hk0
        go_wp2
        go_meet
        exact ⟨0, 0, rfl, rfl, by omega, hide (.inl ⟨by omega, rfl, rfl⟩), HBL, HB0⟩
      by_cases hk1 : k = 1
      · subst hk1
        go_wp2
        go_meet
        exact ⟨0, 0, rfl, rfl, by omega, hide (.inl ⟨by omega, rfl, rfl⟩), HBL, HB0⟩
      by_cases hk2 : k = 2
      · subst hk2
        go_wp2
        go_region
        go_wp2
        go_meet
        exact ⟨2, m, rfl, rfl, by omega, hide (.inr (.inl ⟨by omega, rfl, rfl⟩)), hide (show Blk W0.drew _ _ _ from HBL.out), hide (Below.drew HB0.out)⟩
      by_cases hk3 : k = 3
      · subst hk3
        go_wp2
        go_region
        go_wp2
        go_meet
        exact ⟨2, m, rfl, rfl, by omega, hide (.inr (.inl ⟨by omega, rfl, rfl⟩)), hide (show Blk W0.drew _ _ _ from HBL.out), hide (Below.drew HB0.out)⟩
      by_cases hk4 : k = 4
      · subst hk4
        go_wp2
        go_meet
        exact ⟨1, 1, rfl, rfl, by omega, hide (.inr (.inr ⟨by omega, rfl, rfl⟩)), HBL, HB0⟩
      by_cases hk5 : k = 5
      · subst hk5
        go_wp2
        go_meet
        exact ⟨1, 1, rfl, rfl, by omega, hide (.inr (.inr ⟨by omega, rfl, rfl⟩)), HBL, HB0⟩
      by_cases hk6 : k = 6
      · subst hk6
        go_wp2
        go_meet
        exact ⟨1, 1, rfl, rfl, by omega, hide (.inr (.inr ⟨by omega, rfl, rfl⟩)), HBL, HB0⟩
      have HR := hide (show mayE d (.mk k [x0, x1, x2, x3] L) = false from may_shape (shape_not (by omega)))
      have p0 : (k == 0) = false := by simp; omega
      have p1 : (k == 1) = false := by simp; omega
      have p2 : (k == 2) = false := by simp; omega
      have p3 : (k == 3) = false := by simp; omega
      have p4 : (k == 4) = false := by simp; omega
      have p5 : (k == 5) = false := by simp; omega
      have p6 : (k == 6) = false := by simp; omega
      clear hk0 hk1 hk2 hk3 hk4 hk5 hk6
      go_wp2
      go_ret
      exact BoolP.mk HR.out rfl HB0.out
    case rest =>
      obtain ⟨lo, hi, rfl, rfl, hlo, HKL, HX1, HB1⟩ := hcut
      clear HBL HB0 a0 a1 a2 a3 a4 a5
      have a0 := HX1.out.cell (i := 0) rfl
      have a1 := HX1.out.cell (i := 1) rfl
      have a2 := HX1.out.cell (i := 2) rfl
      have a3 := HX1.out.cell (i := 3) rfl
      have a4 := HX1.out.cell (i := 4) rfl
      have a5 := HX1.out.cell (i := 5) rfl
      go_upto_region 13 with (fail)
      go_cut [50] (fun v wx => v = .bool (!okB d k [x0, x1, x2, x3] m) ∧ wx = wc)
      case first =>
        by_cases hd0 : d = 0
        · subst hd0
          rw [show ((0 : Nat) : Int) = (0 : Int) from rfl]
          go_wp2
          go_meet
          exact ⟨by rw [ok_zero]; rfl, rfl⟩
        have q1 : ¬ (d : Int) < 1 := by omega
        have hd1 : 0 < d := by omega
        clear hd0
        by_cases h1 : m < lo
        · have HR := hide (ok_no (d := d) (kind_no (S := [x0, x1, x2, x3]) HKL.out (.inl h1)))
          have q2 : (m : Int) < (lo : Int) := by omega
          clear h1
          go_wp2
          go_meet
          exact ⟨by rw [HR.out]; rfl, rfl⟩
        have q2 : ¬ (m : Int) < (lo : Int) := by omega
        by_cases h2 : hi < m
        · have HR := hide (ok_no (d := d) (kind_no (S := [x0, x1, x2, x3]) HKL.out (.inr h2)))
          have q3 : (hi : Int) < (m : Int) := by omega
          clear h1 h2
          go_wp2
          go_meet
          exact ⟨by rw [HR.out]; rfl, rfl⟩
        have q3 : ¬ (hi : Int) < (m : Int) := by omega
        by_cases hk1 : k = 1
        · subst hk1
          have HR := hide (ok_yes hd1 (kind_yes (S := [x0, x1, x2, x3]) HKL.out (by omega) (by omega) (.inl rfl)))
          clear h1 h2
          go_wp2
          go_meet
          exact ⟨by rw [HR.out]; rfl, rfl⟩
        have q4 : (k != 1) = true := by simpa using hk1
        cases hs : ([x0, x1, x2, x3] == noSet) with
        | false =>
          have HR := hide (ok_no (d := d) (shape_set (n := m) hk1 hs))
          have q5 := HE.out
          rw [hs] at q5
          clear h1 h2 hk1 hs
          go_wp2
          go_meet
          exact ⟨by rw [HR.out]; rfl, rfl⟩
        | true =>
          have HR := hide (ok_yes hd1 (kind_yes HKL.out (by omega) (by omega) (.inr hs)))
          have q5 := HE.out
          rw [hs] at q5
          clear h1 h2 hk1 hs
          go_wp2
          go_meet
          exact ⟨by rw [HR.out]; rfl, rfl⟩
      case rest =>
        obtain ⟨rfl, rfl⟩ := hcut
        clear HKL
        cases hok : okB d k [x0, x1, x2, x3] m with
        | false =>
          have HR := hide (may_bad (L := L) (by rw [HM.out]; exact hok))
          rw [show (!false) = true from rfl]
          clear hok
          go_wp2
          go_ret
          exact BoolP.mk HR.out rfl HB1.out
        | true =>
          rw [show (!true) = false from rfl]
          obtain ⟨d, rfl, hsh⟩ := ok_pos hok
          have HSH := hide hsh
          have IH := hide (IH0.out d (by omega))
          clear hok hsh IH0 HE
          rw [show ((d + 1 : Nat) : Int) = (d : Int) + 1 from rfl]
          go_wp2
          go_loopw [54] (fun iv wr => ∃ j : Nat, iv = .int .i64 j ∧ j ≤ m ∧ Hid (∀ i x, i < j → L[i]? = some x → mayE d x = true) ∧ Hid (Blk wr w.heap.size 27 (ndL k [x0, x1, x2, x3] (.slice A m cap))) ∧ Hid (Below w.heap.size w wr)) (fun iv _ => m - (intOf iv).toNat)
          case atStart => exact ⟨0, rfl, by omega, hide (fun i x h => absurd h (by omega)), HX1, HB1⟩
          case round =>
            clear HX1 HB1
            obtain ⟨j, rfl, hj, HY, HX, HB⟩ := hrel
            have a5 := HX.out.cell (i := 5) rfl
            by_cases hlt : j < m
            · obtain ⟨x, hx⟩ : ∃ x, L[j]? = some x := ⟨_, List.getElem?_eq_getElem (by rw [HM.out]; exact hlt)⟩
              obtain ⟨b, o, cx, rfl, hb, -, hcx, hnx⟩ := HK.out.get j x hx
              obtain ⟨kx, u0, u1, u2, u3, Ax, mx, capx, rfl, -, -⟩ := hnx.form
              have HCX := hide (fun (W : World) (hW : Below w.heap.size w W) i u (hu : (ndL kx [u0, u1, u2, u3] (.slice Ax mx capx))[i]? = some u) => show W.cell? ⟨b, o + j * 6 + i, none⟩ = some u from (hW.cell (p := ⟨b, o + j * 6 + i, none⟩) hb.2).trans (by have := hcx i u hu; rw [Nat.zero_add] at this; exact this))
              have hsx : szN x < f := Nat.lt_of_le_of_lt (szL_at hx) HF.out
              have HI := hide (fun (W : World) (hW : Below w.heap.size w W) => IH.out x _ W hsx (hnx.low hW))
              have HXJ := hide hx
              clear hx hcx hnx hsx
              have c0 : wr.cell? ⟨b, o + j * 6, none⟩ = some (.int .i64 kx) := HCX.out wr HB.out 0 _ rfl
              have c1 := HCX.out wr HB.out 1 _ rfl
              have c2 := HCX.out wr HB.out 2 _ rfl
              have c3 := HCX.out wr HB.out 3 _ rfl
              have c4 := HCX.out wr HB.out 4 _ rfl
              have c5 := HCX.out wr HB.out 5 _ rfl
              have hj0 : (0 : Int) ≤ (j : Int) := by omega
              have hj1 : (j : Int) < (m : Int) := by omega
              have hbx : Below wr.heap.size wr (wr.alloc (.cells #[.int .i64 kx, .int .u64 (u0 : Int), .int .u64 (u1 : Int), .int .u64 (u2 : Int), .int .u64 (u3 : Int), .slice Ax mx capx] 27)) := (Below.refl _ _).alloc (Nat.le_refl _) _
              have HBX := hide hbx
              clear hbx
              go_wp2_with fail
              refine (HI.out _ (HB.out.trans (HBX.out.mono HB.out.size))).mono ?_; rintro e w9 ⟨he, hb9⟩
              have HX9 := hide ((HX.out.below HBX.out).below hb9)
              have HB9 := hide ((HB.out.trans (HBX.out.mono HB.out.size)).trans (hb9.mono (HB.out.trans (HBX.out.mono HB.out.size)).size))
              clear hb9 HX HB HBX HI a5 c0 c1 c2 c3 c4 c5
              cases hv : mayE d x with
              | true =>
                rw [hv] at he
                have he : e = .returned (.bool true) := he
                subst he
                have HY2 := hide (show ∀ i y, i < j + 1 → L[i]? = some y → mayE d y = true from fun i y hi hy => by
                  rcases Nat.lt_or_ge i j with h | h
                  · exact HY.out i y h hy
                  · obtain rfl : i = j := by omega
                    rw [HXJ.out] at hy; injection hy with hy; rw [← hy]; exact hv)
                clear hv HXJ
                go_wp2
                go_roundw
                case rel => exact ⟨j + 1, by go_num, by omega, HY2, HX9, HB9⟩
                case measure => simp [intOf]; omega
              | false =>
                rw [hv] at he
                have he : e = .returned (.bool false) := he
                subst he
                have HR := hide (show mayE (d + 1) (.mk k [x0, x1, x2, x3] L) = false from may_kid HXJ.out hv)
                clear hv HXJ
                go_wp2
                go_ret
                exact BoolP.mk HR.out rfl HB9.out
            · obtain rfl : j = m := by omega
              have HR := hide (show mayE (d + 1) (.mk k [x0, x1, x2, x3] L) = true from may_all (by rw [HM.out]; exact HSH.out) (fun i y hy => HY.out i y (by have := (List.getElem?_eq_some_iff.1 hy).1; rw [HM.out] at this; exact this) hy))
              go_wp2
              go_ret
              exact BoolP.mk HR.out rfl HB.out
end Go.Proofs.YtfamoikmfbpigaaDoor
namespace Go.Proofs.YtfamoikmfbpigaaDoor
open Go.RowKit

mutual
def rmayE : Nd → Bool
  | .mk k S L => shapeB k S L.length && rmayL L
def rmayL : List Nd → Bool
  | [] => true
  | x :: l => rmayE x && rmayL l
end
theorem rmayL_all : ∀ (L : List Nd), rmayL L = L.all rmayE
  | [] => rfl
  | x :: l => by rw [rmayL, List.all_cons, rmayL_all l]
theorem rmay_kid {k : Int} {S : List Nat} {L : List Nd} {j : Nat} {x : Nd} (hx : L[j]? = some x) (h : rmayE x = false) : rmayE (.mk k S L) = false := by
  rw [rmayE, rmayL_all, Bool.and_eq_false_iff]
  exact .inr (List.all_eq_false.2 ⟨x, List.mem_of_getElem? hx, by rw [h]; decide⟩)
theorem rmay_all {k : Int} {S : List Nat} {L : List Nd} (hs : shapeB k S L.length = true) (h : ∀ (i : Nat) (x : Nd), L[i]? = some x → rmayE x = true) : rmayE (.mk k S L) = true := by
  rw [rmayE, rmayL_all, List.all_eq_true.2 (fun x hx => by obtain ⟨i, hi⟩ := List.getElem?_of_mem hx; exact h i x hi), Bool.and_true, hs]
theorem rmay_shape {k : Int} {S : List Nat} {L : List Nd} (h : shapeB k S L.length = false) : rmayE (.mk k S L) = false := by rw [rmayE, h, Bool.false_and]
def cntB (k : Int) (n : Nat) : Bool := if k = 0 ∨ k = 1 then n == 0 else if k = 2 ∨ k = 3 then decide (2 ≤ n) else if 4 ≤ k ∧ k ≤ 6 then n == 1 else false
theorem shape_cnt (k : Int) (S : List Nat) (n : Nat) : shapeB k S n = (cntB k n && (k == 1 || S == noSet)) := rfl
theorem cnt_not {k : Int} {n : Nat} (h : ¬ (0 ≤ k ∧ k ≤ 6)) : cntB k n = false := by
  unfold cntB
  rw [if_neg (by omega), if_neg (by omega), if_neg (by omega)]
theorem cnt_01 {k : Int} {n : Nat} (h : k = 0 ∨ k = 1) : cntB k n = (n == 0) := by unfold cntB; rw [if_pos h]
theorem cnt_23 {k : Int} {n : Nat} (h : k = 2 ∨ k = 3) : cntB k n = decide (2 ≤ n) := by unfold cntB; rw [if_neg (by omega), if_pos h]
theorem cnt_46 {k : Int} {n : Nat} (h : 4 ≤ k ∧ k ≤ 6) : cntB k n = (n == 1) := by unfold cntB; rw [if_neg (by omega), if_neg (by omega), if_pos h]
set_option maxHeartbeats 8000000 in
set_option maxRecDepth 100000 in
theorem rmay_any : ∀ (f : Nat) (n : Nd) (cs : List Value) (P : Nat → Prop) (w : World), szN n < f → NdX P w n cs →
    Calls Tryd.prog 31 #[.agg cs.toArray] w (BoolP (rmayE n) w)
  | 0, _, _, _, _, hf, _ => absurd hf (by omega)
  | f + 1, .mk k S L, cs, P, w, hf, hn => by
    obtain ⟨x0, x1, x2, x3, A, cap, rfl, rfl, hw, hc, hcm, hkids⟩ := hn.parts
    have IH := hide (fun (n : Nd) (cs : List Value) (W : World) (h1 : szN n < f) (h2 : NdX P W n cs) => rmay_any f n cs P W h1 h2)
    have HK := hide hkids
    obtain ⟨m, hm0⟩ : ∃ m, L.length = m := ⟨_, rfl⟩
    have HM := hide hm0
    have HF := hide (show szL L < f by unfold szN at hf; omega)
    have HB0 := hide (show Below w.heap.size w (w.alloc (.cells (ndL k [x0, x1, x2, x3] (.slice A m cap)).toArray 33)) from (Below.refl _ _).alloc (Nat.le_refl _) _)
    have HBL := hide (Blk.new w 33 (ndL k [x0, x1, x2, x3] (.slice A m cap)))
    have HE := hide (eq4_zero x0 x1 x2 x3)
    rw [hm0] at hc ⊢
    clear hn hkids hw hf hm0
    unfold maxLen at hcm
    rw [show (ndL k [x0, x1, x2, x3] (.slice A m cap)).toArray = #[.int .i64 k, .int .u64 (x0 : Int), .int .u64 (x1 : Int), .int .u64 (x2 : Int), .int .u64 (x3 : Int), .slice A m cap] from rfl]
    go_enter Tryd.func31, Tryd.ntmps31
    go_upto_region 1 with (fail)
    rw [show w.alloc (.cells #[.int .i64 k, .int .u64 (x0 : Int), .int .u64 (x1 : Int), .int .u64 (x2 : Int), .int .u64 (x3 : Int), .slice A m cap] 33) = w.alloc (.cells (ndL k [x0, x1, x2, x3] (.slice A m cap)).toArray 33) from rfl]
    obtain ⟨W0, hW0⟩ : ∃ W, w.alloc (.cells (ndL k [x0, x1, x2, x3] (.slice A m cap)).toArray 33) = W := ⟨_, rfl⟩
    rw [hW0] at HBL HB0 ⊢
    clear hW0
    have a0 := HBL.out.cell (i := 0) rfl
    have a1 := HBL.out.cell (i := 1) rfl
    have a2 := HBL.out.cell (i := 2) rfl
    have a3 := HBL.out.cell (i := 3) rfl
    have a4 := HBL.out.cell (i := 4) rfl
    have a5 := HBL.out.cell (i := 5) rfl
    go_cut [49] (fun v wx => v = .bool (!cntB k m) ∧ wx = W0)
    case first =>
      by_cases h0 : k < 0
      · have HR := hide (show cntB k m = false from cnt_not (by omega))
        go_wp2
        go_meet
        exact ⟨by rw [HR.out]; rfl, rfl⟩
      by_cases h6 : 6 < k
      · have HR := hide (show cntB k m = false from cnt_not (by omega))
        go_wp2
        go_meet
        exact ⟨by rw [HR.out]; rfl, rfl⟩
      by_cases h2 : k < 2
      · by_cases hm : m = 0
        · subst hm
          have q1 : ¬ (0 : Int) < ((0 : Nat) : Int) := by omega
          have q2 : ¬ 4 ≤ k := by omega
          have q3 : (k == 2) = false := by simp; omega
          have q4 : (k == 3) = false := by simp; omega
          have HR := hide (show cntB k 0 = true from by rw [cnt_01 (by omega)]; rfl)
          go_wp2
          go_meet
          exact ⟨by rw [HR.out]; rfl, rfl⟩
        have q1 : (0 : Int) < (m : Int) := by omega
        have HR := hide (show cntB k m = false from by rw [cnt_01 (by omega)]; simpa using hm)
        clear hm
        go_wp2
        go_meet
        exact ⟨by rw [HR.out]; rfl, rfl⟩
      by_cases h4 : 4 ≤ k
      · have q3 : (k == 2) = false := by simp; omega
        have q4 : (k == 3) = false := by simp; omega
        by_cases hm : m = 1
        · have q1 : ((m : Int) != 1) = false := by simp; omega
          have HR := hide (show cntB k m = true from by rw [cnt_46 (by omega), hm]; rfl)
          clear hm
          go_wp2
          go_meet
          exact ⟨by rw [HR.out]; rfl, rfl⟩
        have q1 : ((m : Int) != 1) = true := by simp; omega
        have HR := hide (show cntB k m = false from by rw [cnt_46 (by omega)]; simpa using hm)
        clear hm
        go_wp2
        go_meet
        exact ⟨by rw [HR.out]; rfl, rfl⟩
      by_cases hk2 : k = 2
      · subst hk2
        by_cases hm : m < 2
        · have q1 : (m : Int) < 2 := by omega
          have HR := hide (show cntB 2 m = false from by rw [cnt_23 (by omega)]; exact decide_eq_false (by omega))
          clear hm
          go_wp2
          go_meet
          exact ⟨by rw [HR.out]; rfl, rfl⟩
        have q1 : ¬ (m : Int) < 2 := by omega
        have HR := hide (show cntB 2 m = true from by rw [cnt_23 (by omega)]; exact decide_eq_true (by omega))
        clear hm
        go_wp2
        go_meet
        exact ⟨by rw [HR.out]; rfl, rfl⟩
      obtain rfl : k = 3 := by omega
      by_cases hm : m < 2
      · have q1 : (m : Int) < 2 := by omega
        have HR := hide (show cntB 3 m = false from by rw [cnt_23 (by omega)]; exact decide_eq_false (by omega))
        clear hm
        go_wp2
        go_meet
        exact ⟨by rw [HR.out]; rfl, rfl⟩
      have q1 : ¬ (m : Int) < 2 := by omega
      have HR := hide (show cntB 3 m = true from by rw [cnt_23 (by omega)]; exact decide_eq_true (by omega))
      clear hm
      go_wp2
      go_meet
      exact ⟨by rw [HR.out]; rfl, rfl⟩
    case rest =>
      obtain ⟨rfl, rfl⟩ := hcut
      cases hcn : cntB k m with
      | false =>
        have HR := hide (show rmayE (.mk k [x0, x1, x2, x3] L) = false from rmay_shape (by rw [HM.out, shape_cnt, hcn]; rfl))
        rw [show (!false) = true from rfl]
        clear hcn
        go_wp2
        go_ret
        exact BoolP.mk HR.out rfl HB0.out
      | true =>
        rw [show (!true) = false from rfl]
        have HCN := hide hcn
        clear hcn
        go_upto_region 3 with (fail)
        go_cut [58] (fun v wx => v = .bool (!(k == 1 || [x0, x1, x2, x3] == noSet)) ∧ wx = wc)
        case first =>
          by_cases hk1 : k = 1
          · subst hk1
            go_wp2
            go_meet
            exact ⟨by simp, rfl⟩
          have q4 : (k != 1) = true := by simpa using hk1
          have HK1 := hide (show (k == 1) = false by simpa using hk1)
          cases hs : ([x0, x1, x2, x3] == noSet) with
          | false =>
            have q5 := HE.out
            rw [hs] at q5
            have HS := hide hs
            clear hk1 hs
            go_wp2
            go_meet
            exact ⟨by rw [HK1.out, HS.out]; rfl, rfl⟩
          | true =>
            have q5 := HE.out
            rw [hs] at q5
            have HS := hide hs
            clear hk1 hs
            go_wp2
            go_meet
            exact ⟨by rw [HK1.out, HS.out]; rfl, rfl⟩
        case rest =>
          obtain ⟨rfl, rfl⟩ := hcut
          cases hs : (k == 1 || [x0, x1, x2, x3] == noSet) with
          | false =>
            have HR := hide (show rmayE (.mk k [x0, x1, x2, x3] L) = false from rmay_shape (by rw [shape_cnt, hs, Bool.and_false]))
            rw [show (!false) = true from rfl]
            clear hs
            go_wp2
            go_ret
            exact BoolP.mk HR.out rfl HB0.out
          | true =>
            rw [show (!true) = false from rfl]
            have HSH := hide (show shapeB k [x0, x1, x2, x3] m = true by rw [shape_cnt, HCN.out, hs]; rfl)
            clear hs HE HCN
            go_wp2
            go_loopw [3] (fun iv wr => ∃ j : Nat, iv = .int .i64 j ∧ j ≤ m ∧ Hid (∀ i x, i < j → L[i]? = some x → rmayE x = true) ∧ Hid (Blk wr w.heap.size 33 (ndL k [x0, x1, x2, x3] (.slice A m cap))) ∧ Hid (Below w.heap.size w wr)) (fun iv _ => m - (intOf iv).toNat)
            case atStart => exact ⟨0, rfl, by omega, hide (fun i x h => absurd h (by omega)), HBL, HB0⟩
            case round =>
              clear HBL HB0
              obtain ⟨j, rfl, hj, HY, HX, HB⟩ := hrel
              have a5 := HX.out.cell (i := 5) rfl
              by_cases hlt : j < m
              · obtain ⟨x, hx⟩ : ∃ x, L[j]? = some x := ⟨_, List.getElem?_eq_getElem (by rw [HM.out]; exact hlt)⟩
                obtain ⟨b, o, cx, rfl, hb, -, hcx, hnx⟩ := HK.out.get j x hx
                obtain ⟨kx, u0, u1, u2, u3, Ax, mx, capx, rfl, -, -⟩ := hnx.form
                have HCX := hide (fun (W : World) (hW : Below w.heap.size w W) i u (hu : (ndL kx [u0, u1, u2, u3] (.slice Ax mx capx))[i]? = some u) => show W.cell? ⟨b, o + j * 6 + i, none⟩ = some u from (hW.cell (p := ⟨b, o + j * 6 + i, none⟩) hb.2).trans (by have := hcx i u hu; rw [Nat.zero_add] at this; exact this))
                have hsx : szN x < f := Nat.lt_of_le_of_lt (szL_at hx) HF.out
                have HI := hide (fun (W : World) (hW : Below w.heap.size w W) => IH.out x _ W hsx (hnx.low hW))
                have HXJ := hide hx
                clear hx hcx hnx hsx
                have c0 : wr.cell? ⟨b, o + j * 6, none⟩ = some (.int .i64 kx) := HCX.out wr HB.out 0 _ rfl
                have c1 := HCX.out wr HB.out 1 _ rfl
                have c2 := HCX.out wr HB.out 2 _ rfl
                have c3 := HCX.out wr HB.out 3 _ rfl
                have c4 := HCX.out wr HB.out 4 _ rfl
                have c5 := HCX.out wr HB.out 5 _ rfl
                have hj0 : (0 : Int) ≤ (j : Int) := by omega
                have hj1 : (j : Int) < (m : Int) := by omega
                go_wp2_with fail
                refine (HI.out _ HB.out).mono ?_; rintro e w9 ⟨he, hb9⟩
                have HX9 := hide (HX.out.below hb9)
                have HB9 := hide (HB.out.trans (hb9.mono HB.out.size))
                clear hb9 HX HB HI a5 c0 c1 c2 c3 c4 c5
                cases hv : rmayE x with
                | true =>
                  rw [hv] at he
                  have he : e = .returned (.bool true) := he
                  subst he
                  have HY2 := hide (show ∀ i y, i < j + 1 → L[i]? = some y → rmayE y = true from fun i y hi hy => by
                    rcases Nat.lt_or_ge i j with h | h
                    · exact HY.out i y h hy
                    · obtain rfl : i = j := by omega
                      rw [HXJ.out] at hy; injection hy with hy; rw [← hy]; exact hv)
                  clear hv HXJ
                  go_wp2
                  go_roundw
                  case rel => exact ⟨j + 1, by go_num, by omega, HY2, HX9, HB9⟩
                  case measure => simp [intOf]; omega
                | false =>
                  rw [hv] at he
                  have he : e = .returned (.bool false) := he
                  subst he
                  have HR := hide (show rmayE (.mk k [x0, x1, x2, x3] L) = false from rmay_kid HXJ.out hv)
                  clear hv HXJ
                  go_wp2
                  go_ret
                  exact BoolP.mk HR.out rfl HB9.out
              · obtain rfl : j = m := by omega
                have HR := hide (show rmayE (.mk k [x0, x1, x2, x3] L) = true from rmay_all (by rw [HM.out]; exact HSH.out) (fun i y hy => HY.out i y (by have := (List.getElem?_eq_some_iff.1 hy).1; rw [HM.out] at this; exact this) hy))
                go_wp2
                go_ret
                exact BoolP.mk HR.out rfl HB.out
end Go.Proofs.YtfamoikmfbpigaaDoor
namespace Go.Proofs.YtfamoikmfbpigaaDoor
open Go.RowKit

def kdN : Nd → Int
  | .mk k _ _ => k
def wrapB (of : Int) (x : Nd) : Bool := kdN x == 3 || (kdN x == 2 && of != 3)
def kidE (of : Int) (x : Nd) (t : List UInt8) : List UInt8 := if wrapB of x = true then 40 :: (t ++ [41]) else t
mutual
/-- A node, as it is shown. -/
def showE : Nd → List UInt8
  | .mk k S L => if k = 1 then spansE S else if k = 2 then (kidsE k L).flatten else if k = 3 then Go.Lib.join (kidsE k L) [124] else if k = 4 then (kidsE k L).flatten ++ [42] else if k = 5 then (kidsE k L).flatten ++ [43] else if k = 6 then (kidsE k L).flatten ++ [63] else [40, 41]
def kidsE (of : Int) : List Nd → List (List UInt8)
  | [] => []
  | x :: l => kidE of x (showE x) :: kidsE of l
end
theorem kidsE_map (of : Int) : ∀ L : List Nd, kidsE of L = L.map fun x => kidE of x (showE x)
  | [] => rfl
  | x :: l => by rw [kidsE, kidsE_map of l]; rfl
theorem kidE_len (of : Int) (x : Nd) (t : List UInt8) : (kidE of x t).length ≤ t.length + 2 := by
  unfold kidE
  split <;> simp
theorem spansE_len (S : List Nat) : (spansE S).length ≤ 2310 := by
  unfold spansE
  have h := flat_len (scR S 0)
  have key : ∀ (f b : Nat), (scanR S f b).length ≤ f := by
    intro f
    induction f with
    | zero => intro b; simp [scanR]
    | succ f ih =>
      intro b
      rw [scanR]
      repeat' split
      · have := ih (enR S b + 1); simp; omega
      · have := ih (b + 1); omega
      · simp
  have h2 : (scR S 0).length ≤ 256 := key _ _
  repeat' split
  · decide
  · omega
  · simp only [List.length_cons, List.length_append, List.length_nil]; omega
theorem flat_le : ∀ l : List (List UInt8), l.flatten.length ≤ (l.map fun x => x.length + 1).sum
  | [] => by simp
  | x :: l => by
    have := flat_le l
    rw [List.flatten_cons, List.length_append, List.map_cons, List.sum_cons]; omega
theorem join_len (sep : List UInt8) : ∀ l : List (List UInt8), (Go.Lib.join l sep).length ≤ (l.map fun x => x.length + sep.length).sum
  | [] => by simp [Go.Lib.join_nil]
  | x :: l => by
    rw [Go.Lib.join_cons, List.length_append]
    have : (Go.Lib.joinTail sep l).length = (l.map fun x => x.length + sep.length).sum := by
      unfold Go.Lib.joinTail
      rw [List.length_flatten, List.map_map]
      congr 1
      apply List.map_congr_left
      intro y _
      simp; omega
    simp; omega
mutual
theorem show_len : ∀ n : Nd, (showE n).length + 3 ≤ 2400 * szN n
  | .mk k S L => by
    have h1 := kids_len k L
    have h2 := spansE_len S
    rw [showE, szN]
    have h3 := flat_le (kidsE k L)
    have h4 : (Go.Lib.join (kidsE k L) [124]).length ≤ ((kidsE k L).map fun x => x.length + 1).sum := join_len [124] (kidsE k L)
    repeat' split
    all_goals (try simp only [List.length_append, List.length_cons, List.length_nil]); omega
theorem kids_len (of : Int) : ∀ L : List Nd, ((kidsE of L).map fun x => x.length + 1).sum ≤ 2400 * szL L
  | [] => by simp [kidsE, szL]
  | x :: l => by
    have h1 := show_len x
    have h2 := kids_len of l
    have h3 := kidE_len of x (showE x)
    rw [kidsE, szL]
    simp only [List.map_cons, List.sum_cons, List.length_cons]
    omega
end
end Go.Proofs.YtfamoikmfbpigaaDoor
namespace Go.Proofs.YtfamoikmfbpigaaDoor
open Go.RowKit

/-- A row of nodes of one's own: their cells lie side by side; what lies below them lies elsewhere. -/
def RowM (W : World) (B : Nat) (v : Value) (L : List Nd) : Prop :=
  ∃ Cs : List (List Value), Cs.length = L.length ∧ (∀ cs ∈ Cs, cs.length = 6) ∧ W.ownsRow B 33 6 v L.length Cs.flatten ∧ ∀ (j : Nat) (x : Nd), L[j]? = some x → ∃ cs, Cs[j]? = some cs ∧ NdX (fun b => B ≤ b ∧ some b ≠ v.ownBlock) W x cs
theorem infoM : (Tryd.prog.info? 33).map (fun i => (i.zero, i.size, i.bytes)) = some (some (.agg #[.int .i64 0, .int .u64 0, .int .u64 0, .int .u64 0, .int .u64 0, .slice none 0 0]), 6, 64) := by kernel_rfl
theorem infoM_parts : ∃ i, Tryd.prog.info? 33 = some i ∧ i.zero = some (.agg #[.int .i64 0, .int .u64 0, .int .u64 0, .int .u64 0, .int .u64 0, .slice none 0 0]) ∧ i.size = 6 ∧ i.bytes = 64 := by
  have h := infoM
  cases hi : Tryd.prog.info? 33 with
  | none => rw [hi] at h; cases h
  | some i =>
    rw [hi] at h
    simp only [Option.map_some, Option.some.injEq, Prod.mk.injEq] at h
    exact ⟨i, rfl, h⟩
theorem RowM.nil (W : World) (B : Nat) : RowM W B (.slice none 0 0) [] := ⟨[], rfl, by simp, World.ownsRow_nil W B _ 6, by simp⟩
theorem RowM.keep {W V : World} {B : Nat} {v : Value} {L : List Nd} (h : RowM W B v L) (hs : W.heap.size ≤ V.heap.size) (hk : ∀ b, B ≤ b → b < W.heap.size → V.heap[b]? = W.heap[b]?) : RowM V B v L := by
  obtain ⟨Cs, h1, h2, h3, h4⟩ := h
  refine ⟨Cs, h1, h2, ?_, fun j x hx => ?_⟩
  · refine ⟨h3.1, ?_⟩
    rcases h3.2 with h | ⟨g, cap, cur, e1, e2, e3, e4⟩
    · exact .inl h
    · exact .inr ⟨g, cap, cur, e1, e2, (hk g e2 (Array.getElem?_eq_some_iff.1 e3).1).trans e3, e4⟩
  · obtain ⟨cs, e1, e2⟩ := h4 j x hx
    exact ⟨cs, e1, NdX.keep (fun _ h _ => h) hs (fun b o u hb hc => (World.cell?_of_block (hk b hb.1 (World.block_lt_of_cell? _ _ hc))).trans hc) x cs e2⟩
/-- What a row's nodes are, as a node's kids. -/
theorem RowM.kids {W : World} {B : Nat} {v : Value} {L : List Nd} (h : RowM W B v L) : ∃ A cap, v = .slice A L.length cap ∧ L.length ≤ cap ∧ cap ≤ maxLen ∧ NdsX (fun b => B ≤ b) W L A 0 := by
  obtain ⟨Cs, h1, h2, h3, h4⟩ := h
  rcases h3.2 with ⟨rfl, hn⟩ | ⟨g, cap, cur, rfl, e2, e3, e4, e5, e6, e7⟩
  · have : L = [] := List.eq_nil_of_length_eq_zero hn
    subst this
    exact ⟨none, 0, rfl, Nat.le_refl _, by unfold maxLen; omega, by unfold NdsX; trivial⟩
  · refine ⟨some ⟨g, 0, none⟩, cap, rfl, e4, e5, NdsX.mk ⟨e2, (Array.getElem?_eq_some_iff.1 e3).1⟩ L 0 (fun i x hx => ?_)⟩
    obtain ⟨cs, k1, k2⟩ := h4 i x hx
    refine ⟨cs, k2.len, fun q u hu => ?_, NdX.keep (fun _ h _ => h.1) (Nat.le_refl _) (fun _ _ _ _ h => h) x cs k2⟩
    have hf := flat_at h2 i q cs u k1 hu
    have := h3.cells (g := g) rfl (i * 6 + q) u hf
    rw [← this]
    congr 1
    unfold Addr.add
    split <;> simp_all
theorem RowM.one {W : World} {B b : Nat} {x : Nd} {cs : List Value} (hb : Blk W b 33 cs) (hB : B ≤ b) (hx : NdX (fun c => B ≤ c ∧ c ≠ b) W x cs) : RowM W B (.slice (some ⟨b, 0, none⟩) 1 1) [x] := by
  refine ⟨[cs], rfl, fun c hc => by simp at hc; rw [hc]; exact hx.len, ⟨by simp [hx.len], .inr ⟨b, 1, cs.toArray, rfl, hB, hb, Nat.le_refl _, by unfold maxLen; omega, by simp [hx.len], by rw [List.take_of_length_le (by simp [hx.len])]; simp⟩⟩, fun j y hy => ?_⟩
  match j, hy with
  | 0, hy =>
    simp at hy; subst hy
    exact ⟨cs, rfl, NdX.keep (fun c h _ => ⟨h.1, fun e => h.2 (by simpa [Value.ownBlock] using e)⟩) (Nat.le_refl _) (fun _ _ _ _ h => h) _ _ hx⟩
  | j + 1, hy => simp at hy
/-- Append of a node. -/
theorem RowM.app {W V : World} {B : Nat} {v v' : Value} {L : List Nd} {x : Nd} {cs : List Value} {Cs : List (List Value)} (h1 : Cs.length = L.length) (h2 : ∀ cs ∈ Cs, cs.length = 6) (h4 : ∀ (j : Nat) (x : Nd), L[j]? = some x → ∃ cs, Cs[j]? = some cs ∧ NdX (fun b => B ≤ b ∧ some b ≠ v.ownBlock) W x cs)
    (hx : NdX (fun b => B ≤ b ∧ some b ≠ v.ownBlock) W x cs) (hown : V.ownsRow B 33 6 v' (L.length + 1) (Cs.flatten ++ cs)) (hg : W.grownBy V v.ownBlock) (hat : v'.ownBlock = v.ownBlock ∨ v'.ownBlock = some W.heap.size) : RowM V B v' (L ++ [x]) := by
  have hmv : ∀ (y : Nd) (c : List Value), NdX (fun b => B ≤ b ∧ some b ≠ v.ownBlock) W y c → NdX (fun b => B ≤ b ∧ some b ≠ v'.ownBlock) V y c := fun y c hy =>
    NdX.keep (fun b hb hlt => ⟨hb.1, by
      rcases hat with h | h
      · rw [h]; exact hb.2
      · rw [h]; intro e; injection e with e; omega⟩) hg.size (fun b o u hb hc => hg.cell hc hb.2) y c hy
  refine ⟨Cs ++ [cs], by simp [h1], fun c hc => ?_, by simpa using hown, fun j y hy => ?_⟩
  · rcases List.mem_append.1 hc with h | h
    · exact h2 c h
    · simp at h; rw [h]; exact hx.len
  · by_cases hj : j < L.length
    · rw [List.getElem?_append_left hj] at hy
      obtain ⟨c, e1, e2⟩ := h4 j y hy
      exact ⟨c, by rw [List.getElem?_append_left (by omega)]; exact e1, hmv _ _ e2⟩
    · rw [List.getElem?_append_right (by omega)] at hy
      have : j = L.length := by
        have := (List.getElem?_eq_some_iff.1 hy).1
        simp at this; omega
      subst this
      simp at hy; subst hy
      exact ⟨cs, by rw [List.getElem?_append_right (by omega), h1]; simp, hmv _ _ hx⟩
theorem RowM.own {W : World} {B : Nat} {v : Value} {L : List Nd} (h : RowM W B v L) : ∀ q, v.ownBlock = some q → B ≤ q ∧ q < W.heap.size := by
  intro q hq
  obtain ⟨Cs, h1, h2, h3, h4⟩ := h
  rcases h3.2 with ⟨rfl, -⟩ | ⟨g, cap, cur, rfl, e2, e3, -⟩
  · cases hq
  · injection hq with hq; subst hq
    exact ⟨e2, (Array.getElem?_eq_some_iff.1 e3).1⟩
theorem new_atM (W : World) (cs : List Value) : ∀ j u, cs[j]? = some u → (W.alloc (.cells cs.toArray 33)).cell? ((⟨W.heap.size, 0, none⟩ : Addr).add j) = some u := by
  intro j u hu
  have h := (Blk.new W 33 cs).cell (i := j) hu
  rw [← h]
  congr 1
  unfold Addr.add
  split <;> simp_all
theorem nd_putT {T : TypeId} {W : World} {z : Nat} {k0 : Int} {a0 b0 c0 d0 : Nat} {v0 : Value} (h : Blk W z T (ndL k0 [a0, b0, c0, d0] v0)) (k : Int) (a b c d : Nat) (v : Value) : Blk (ndSet W z k a b c d v) z T (ndL k [a, b, c, d] v) :=
  (((((h.set 0 _).set 1 _).set 2 _).set 3 _).set 4 _).set 5 _
theorem RowM.below {W V : World} {B : Nat} {v : Value} {L : List Nd} (h : RowM W B v L) (hb : Below W.heap.size W V) : RowM V B v L := h.keep hb.size (fun b _ hlt => hb.block b hlt)
set_option maxRecDepth 100000 in
/-- One node is hung on: as one step of a region that draws its order. -/
theorem step_appM {ops : Array Oper} {o : Oper} {a : Act} {W : World} {K : Act → World → Prop} {Q : Exit → Act → World → Prop} {X : Prop} (hgd : o.guard = none) (s x : Operand)
    (hop : o.op = Op.call { callee := Callee.builtin Builtin.append, args := #[s, x], argTypes := #[31, 31] })
    (B : Nat) (hB : B ≤ W.heap.size) (v : Value) (L : List Nd) (n : Nd) (b : Nat) (cs : List Value) (hs : a.eval s = v) (hx : a.eval x = .slice (some ⟨b, 0, none⟩) 1 1) (hrow : RowM W B v L) (hb : Blk W b 33 cs) (hn : NdX (fun c => B ≤ c ∧ some c ≠ v.ownBlock) W n cs) (hlen : L.length ≤ 1000000)
    (hK : ∀ v' w', RowM w' B v' (L ++ [n]) → Below B W w' → K (a.put o.dst v') w') :
    if Region.wanted o (yielded ops a.tmps) = true then Oper.wp Tryd.prog o a W K Q else X := by
  have hw : Region.wanted o (yielded ops a.tmps) = true := by simp [Region.wanted, hgd]
  rw [if_pos hw]
  obtain ⟨i0, hi, hz0, hz1, hz2⟩ := infoM_parts
  obtain ⟨Cs, hc1, hc2, hc3, hc4⟩ := hrow
  obtain ⟨v', w', hrun, h1, h2, -, h4⟩ := run_append_own_at (P := Tryd.prog) W B 31 o.type 33 i0 _ 6 64 Tryd.underlying31 hi hz0 hz1 hz2 (by rfl) (by decide) v L.length Cs.flatten hc3 ⟨b, 0, none⟩ 1 1 cs (by rw [hn.len])
    (fun j u hu => by have := hb.cell (i := j) hu; rw [← this]; congr 1; unfold Addr.add; split <;> simp_all) (NdX.one hn) (by unfold maxLen; omega) (by omega) hB
  unfold Oper.wp
  simp [execOp, hop, resolve, invoke, builtin, hs, hx, hrun, Result.andThen]
  exact hK v' w' (RowM.app hc1 hc2 hc4 hn h1 h2 h4) ((Below.refl _ _).grown h2 hB (fun k e => (World.ownsRow.lt hc3 k e).1))
/-- A call of a function of one argument, as one step of a region that draws its order. -/
theorem step_fn1 {ops : Array Oper} {o : Oper} {a : Act} {W : World} {K : Act → World → Prop} {Q : Exit → Act → World → Prop} {E : Prop}
    (hgd : o.guard = none) (f : Nat) (fn : Func) (hf : Tryd.prog.funcs[f]? = some fn) (hnm : ¬ fn.name = "runtime.NumGoroutine") (hbd : ¬ fn.body = Option.none) (x : Operand) (ty : Array TypeId) (hop : o.op = Op.call { callee := Callee.value (.func f), args := #[x], argTypes := ty })
    (vx : Value) (hx : a.eval x = vx) (Post : Value → World → Prop) (hc : Calls Tryd.prog f #[vx] W fun e w' => ∃ v, e = .returned v ∧ Post v w')
    (hK : ∀ v w', Post v w' → K (a.put o.dst v) w') :
    if Region.wanted o (yielded ops a.tmps) = true then Oper.wp Tryd.prog o a W K Q else E := by
  have hw : Region.wanted o (yielded ops a.tmps) = true := by simp [Region.wanted, hgd]
  rw [if_pos hw]
  unfold Oper.wp
  have he : a.eval (Operand.func f) = Value.func (Fn.func f) #[] #[] := rfl
  simp [execOp, hop, resolve, invoke, hx, he, Result.andThen, Deferred.ofValue, callFunc, hf, hnm, hbd]
  refine hc.mono ?_
  rintro e w' ⟨v, rfl, hp⟩
  exact hK v w' hp
end Go.Proofs.YtfamoikmfbpigaaDoor
