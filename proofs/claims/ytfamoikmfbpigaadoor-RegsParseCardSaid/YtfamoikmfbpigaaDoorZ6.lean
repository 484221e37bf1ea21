/- The document's bracket. The document's join and atom. The document's rows: what it computes is what the program does. The document's rows: the walk. -/
import Derived.Test.YtfamoikmfbpigaaDoorZ5
namespace Go.Proofs.YtfamoikmfbpigaaDoor
open Go.RowKit

set_option maxHeartbeats 8000000 in
set_option maxRecDepth 100000 in
theorem rbra_no (s : ByteArray) (i0 : Nat) (w : World) (hs : s.size ≤ 90000) (hi0 : i0 ≤ s.size) (hnt : ¬ byI s i0 = some 94) :
    Calls Tryd.prog 51 #[.string s, .int .i64 (i0 : Int)] w (ResI s w (braE (rest s i0))) := by
  have HB0 := hide (br_new w)
  have HA0 := hide (fun W => rat_any s i0 W (by omega))
  have hbr : braE (rest s i0) = match braL ((skipS (rest s i0) 94).size + 1) true (skipS (rest s i0) 94) noSet with | none => none | some (S, t) => some (.mk 1 (cmpJ S (if isB (rest s i0) 94 = true then 4 else 0)) [], t.extract 1 t.size) := rfl
  rw [skip_rest, isB_rest] at hbr
  obtain ⟨Y, hY⟩ : ∃ Y, braE (rest s i0) = Y := ⟨_, rfl⟩
  rw [hY] at hbr ⊢
  clear hY
  have hi1 : i0 ≤ s.size := by omega
  obtain ⟨i1, hie⟩ : ∃ i, i0 = i := ⟨_, rfl⟩
  rw [if_neg hnt, decide_eq_false hnt] at hbr
  rw [hie] at hbr hi1
  obtain ⟨X, hXe⟩ : ∃ X, braL ((rest s i1).size + 1) true (rest s i1) noSet = X := ⟨_, rfl⟩
  rw [hXe] at hbr
  have HX := hide hbr
  have HXE := hide hXe
  have HIE := hide hie
  clear hbr hXe hie
  have hq := at_eq s i0 94
  have HAT := hide (fun (i : Nat) (W : World) => rat_any s i W (by omega))
  have HLT := hide (fun (i : Nat) (W : World) (hi : i ≤ 100000) => rlet_any true s i W (by omega) hi)
  go_enter Tryd.func51, Tryd.ntmps51
  go_wp2_with fail
  rw [show (w.alloc (.cells #[.int .i64 0, .int .u64 0, .int .u64 0, .int .u64 0, .int .u64 0, .slice none 0 0] 33)).alloc (.cells #[.int .i64 1, .int .u64 0, .int .u64 0, .int .u64 0, .int .u64 0, .slice none 0 0] 33) = (w.alloc (.cells (ndL 0 noSet (.slice none 0 0)).toArray 33)).alloc (.cells (ndL 1 noSet (.slice none 0 0)).toArray 33) from rfl]
  obtain ⟨W0, hW0⟩ : ∃ W, (w.alloc (.cells (ndL 0 noSet (.slice none 0 0)).toArray 33)).alloc (.cells (ndL 1 noSet (.slice none 0 0)).toArray 33) = W := ⟨_, rfl⟩
  rw [hW0] at HB0 ⊢
  clear hW0
  refine (HA0.out _).mono ?_; rintro e w1 ⟨rfl, rfl⟩
  obtain ⟨a0, ha0⟩ : ∃ a, atI s i0 = a := ⟨_, rfl⟩
  rw [ha0] at hq ⊢
  rw [decide_eq_false hnt] at hq
  clear ha0 HA0 hnt
  go_wp2_with fail
  have hq2 : (a0 == 94) = false := hq
  rw [hq2]
  clear hq hq2
  go_loopw [1, 8] (fun iv mv wr => ∃ (m i f : Nat) (S : List Nat), mv = .int .i64 (m : Int) ∧ iv = .int .i64 (i : Int) ∧ m ≤ i ∧ i ≤ s.size ∧ s.size - i < f ∧ Hid (braL f (decide (m = 0)) (rest s i) S = X) ∧ Hid (BrS w wr S)) (fun iv _ _ => s.size - (intOf iv).toNat)
  case atStart => exact ⟨0, i1, (rest s i1).size + 1, noSet, rfl, by rw [← HIE.out]; first | done | go_num, by omega, by omega, by rw [rest_size]; omega, HXE, HB0⟩
  case round =>
    clear HB0 HXE
    obtain ⟨m, i, f, S, rfl, rfl, hmi, his, hf, HL, HB⟩ := hrel
    obtain ⟨f, rfl⟩ : ∃ g, f = g + 1 := ⟨f - 1, by omega⟩
    have HST := HL.out
    rw [braL, next_rest] at HST
    by_cases hm : m = 0
    · subst hm
      rw [if_pos (.inl rfl), let_rest] at HST
      go_wp2_with fail
      refine (HLT.out i _ (by omega)).mono ?_; rintro e w2 hr
      obtain ⟨hb2, hr⟩ := hr.cases
      replace HB := hide (HB.out.low hb2)
      clear hb2
      obtain ⟨x0, x1, x2, x3, rfl⟩ := four_of HB.out.wide
      rcases hr with ⟨hx, rfl⟩ | ⟨a, k, hx, rfl⟩
      · rw [hx] at HST
        have HNX := hide (show (none : Option (List Nat × ByteArray)) = X from HST)
        have HNO := hide (show Y = none by rw [HX.out, ← HNX.out])
        clear hx HST HNX HL
        have a0 := HB.out.b1.cell (i := 0) rfl
        have a1 := HB.out.b1.cell (i := 1) rfl
        have a2 := HB.out.b1.cell (i := 2) rfl
        have a3 := HB.out.b1.cell (i := 3) rfl
        have a4 := HB.out.b1.cell (i := 4) rfl
        have a5 := HB.out.b1.cell (i := 5) rfl
        have b0 := HB.out.b2.cell (i := 0) rfl
        have b1 := HB.out.b2.cell (i := 1) rfl
        have b2 := HB.out.b2.cell (i := 2) rfl
        have b3 := HB.out.b2.cell (i := 3) rfl
        have b4 := HB.out.b2.cell (i := 4) rfl
        have b5 := HB.out.b2.cell (i := 5) rfl
        have af := fun i => HB.out.b1.frozen i
        go_wp2
        refine bodyPost_ret (results_nd rfl _ _ w.heap.size (ndL 1 [x0, x1, x2, x3] (.slice none 0 0)) _ rfl rfl (nd_putT HB.out.b1 1 x0 x1 x2 x3 (.slice none 0 0)) rfl) rfl ?_
        exact ResI.no HNO.out (NdAt.leaf _ _ 1 HB.out.wide) (BelowKeep HB.out.below (nd_keep _ w.heap.size 1 x0 x1 x2 x3 (.slice none 0 0)) (Nat.le_refl _))
      · have hlb := let_ib hx
        rw [hx] at HST
        simp only [Option.map_some] at HST
        rw [isB_rest] at HST
        have HQ := hide (at_eq s k 45)
        have hq45 := at_eq s k 45
        obtain ⟨ak, hak⟩ : ∃ a, atI s k = a := ⟨_, rfl⟩
        have HAK := hide (fun W => HAT.out k W)
        rw [hak] at HAK hq45
        clear hx HL hak
        go_wp2_with fail
        refine (HAK.out _).mono ?_; rintro e w3 ⟨rfl, rfl⟩
        by_cases h45 : byI s k = some 45
        · rw [decide_eq_true h45] at hq45 HST
          rw [if_pos rfl, rest_tail, let_rest] at HST
          clear h45
          go_wp2_with fail
          refine (HLT.out (k + 1) _ (by omega)).mono ?_; rintro e w4 hr
          obtain ⟨hb4, hr⟩ := hr.cases
          replace HB := hide (HB.out.low hb4)
          clear hb4
          rcases hr with ⟨hx, rfl⟩ | ⟨b, k2, hx, rfl⟩
          · rw [hx] at HST
            have HNX := hide (show (none : Option (List Nat × ByteArray)) = X from HST)
            have HNO := hide (show Y = none by rw [HX.out, ← HNX.out])
            clear hx HST HNX
            have a0 := HB.out.b1.cell (i := 0) rfl
            have a1 := HB.out.b1.cell (i := 1) rfl
            have a2 := HB.out.b1.cell (i := 2) rfl
            have a3 := HB.out.b1.cell (i := 3) rfl
            have a4 := HB.out.b1.cell (i := 4) rfl
            have a5 := HB.out.b1.cell (i := 5) rfl
            have b0 := HB.out.b2.cell (i := 0) rfl
            have b1 := HB.out.b2.cell (i := 1) rfl
            have b2 := HB.out.b2.cell (i := 2) rfl
            have b3 := HB.out.b2.cell (i := 3) rfl
            have b4 := HB.out.b2.cell (i := 4) rfl
            have b5 := HB.out.b2.cell (i := 5) rfl
            have af := fun i => HB.out.b1.frozen i
            go_wp2
            refine bodyPost_ret (results_nd rfl _ _ w.heap.size (ndL 1 [x0, x1, x2, x3] (.slice none 0 0)) _ rfl rfl (nd_putT HB.out.b1 1 x0 x1 x2 x3 (.slice none 0 0)) rfl) rfl ?_
            exact ResI.no HNO.out (NdAt.leaf _ _ 1 HB.out.wide) (BelowKeep HB.out.below (nd_keep _ w.heap.size 1 x0 x1 x2 x3 (.slice none 0 0)) (Nat.le_refl _))
          · have hlb2 := let_ib hx
            rw [hx] at HST
            simp only [Option.map_some] at HST
            clear hx
            by_cases hba : b < a
            · rw [if_pos hba] at HST
              have hba2 : (b : Int) < (a : Int) := by omega
              have HNX := hide (show (none : Option (List Nat × ByteArray)) = X from HST)
              have HNO := hide (show Y = none by rw [HX.out, ← HNX.out])
              clear HST HNX
              have a0 := HB.out.b1.cell (i := 0) rfl
              have a1 := HB.out.b1.cell (i := 1) rfl
              have a2 := HB.out.b1.cell (i := 2) rfl
              have a3 := HB.out.b1.cell (i := 3) rfl
              have a4 := HB.out.b1.cell (i := 4) rfl
              have a5 := HB.out.b1.cell (i := 5) rfl
              have b0 := HB.out.b2.cell (i := 0) rfl
              have b1 := HB.out.b2.cell (i := 1) rfl
              have b2 := HB.out.b2.cell (i := 2) rfl
              have b3 := HB.out.b2.cell (i := 3) rfl
              have b4 := HB.out.b2.cell (i := 4) rfl
              have b5 := HB.out.b2.cell (i := 5) rfl
              have af := fun i => HB.out.b1.frozen i
              go_wp2
              refine bodyPost_ret (results_nd rfl _ _ w.heap.size (ndL 1 [x0, x1, x2, x3] (.slice none 0 0)) _ rfl rfl (nd_putT HB.out.b1 1 x0 x1 x2 x3 (.slice none 0 0)) rfl) rfl ?_
              exact ResI.no HNO.out (NdAt.leaf _ _ 1 HB.out.wide) (BelowKeep HB.out.below (nd_keep _ w.heap.size 1 x0 x1 x2 x3 (.slice none 0 0)) (Nat.le_refl _))
            · rw [if_neg hba] at HST
              have hba2 : ¬ (b : Int) < (a : Int) := by omega
              have c0 := HB.out.b2.cell (i := 0) rfl
              have c1 := HB.out.b2.cell (i := 1) rfl
              have c2 := HB.out.b2.cell (i := 2) rfl
              have c3 := HB.out.b2.cell (i := 3) rfl
              have c4 := HB.out.b2.cell (i := 4) rfl
              have c5 := HB.out.b2.cell (i := 5) rfl
              have cf := fun i => HB.out.b2.frozen i
              go_wp2_with fail
              refine (rwith_is x0 x1 x2 x3 a b _ HB.out.wide (by omega) (by omega)).mono ?_; rintro e w9 ⟨⟨y0, y1, y2, y3, hy, rfl⟩, hb9⟩
              have HB9 := hide (HB.out.low hb9)
              have HW9 := hide (show W64 [y0, y1, y2, y3] by rw [← hy]; exact spanS_w HB.out.wide _ _)
              have HY := hide hy
              clear hb9 hy c0 c1 c2 c3 c4 c5 cf
              have c0 := HB9.out.b2.cell (i := 0) rfl
              have c1 := HB9.out.b2.cell (i := 1) rfl
              have c2 := HB9.out.b2.cell (i := 2) rfl
              have c3 := HB9.out.b2.cell (i := 3) rfl
              have c4 := HB9.out.b2.cell (i := 4) rfl
              have c5 := HB9.out.b2.cell (i := 5) rfl
              have cf := fun i => HB9.out.b2.frozen i
              go_wp2_with fail
              go_roundw
              case rel =>
                have hr1 : Hid (braL f (decide (0 + 1 = 0)) (rest s k2) [y0, y1, y2, y3] = X) := hide (by rw [show decide (0 + 1 = 0) = false from rfl, ← HY.out]; exact HST)
                exact ⟨0 + 1, k2, f, [y0, y1, y2, y3], by go_num, rfl, by omega, by omega, by omega, hr1, hide (HB9.out.put HW9.out)⟩
              case measure => simp [intOf]; omega
        · rw [decide_eq_false h45] at hq45 HST
          rw [if_neg (by decide)] at HST
          rw [show 1 = a + 1 - a by omega] at HST
          clear h45
          have c0 := HB.out.b2.cell (i := 0) rfl
          have c1 := HB.out.b2.cell (i := 1) rfl
          have c2 := HB.out.b2.cell (i := 2) rfl
          have c3 := HB.out.b2.cell (i := 3) rfl
          have c4 := HB.out.b2.cell (i := 4) rfl
          have c5 := HB.out.b2.cell (i := 5) rfl
          have cf := fun i => HB.out.b2.frozen i
          go_wp2_with fail
          refine (rwith_is x0 x1 x2 x3 a a _ HB.out.wide (by omega) (by omega)).mono ?_; rintro e w9 ⟨⟨y0, y1, y2, y3, hy, rfl⟩, hb9⟩
          have HB9 := hide (HB.out.low hb9)
          have HW9 := hide (show W64 [y0, y1, y2, y3] by rw [← hy]; exact spanS_w HB.out.wide _ _)
          have HY := hide hy
          clear hb9 hy c0 c1 c2 c3 c4 c5 cf
          have c0 := HB9.out.b2.cell (i := 0) rfl
          have c1 := HB9.out.b2.cell (i := 1) rfl
          have c2 := HB9.out.b2.cell (i := 2) rfl
          have c3 := HB9.out.b2.cell (i := 3) rfl
          have c4 := HB9.out.b2.cell (i := 4) rfl
          have c5 := HB9.out.b2.cell (i := 5) rfl
          have cf := fun i => HB9.out.b2.frozen i
          go_wp2_with fail
          go_roundw
          case rel =>
            have hr1 : Hid (braL f (decide (0 + 1 = 0)) (rest s k) [y0, y1, y2, y3] = X) := hide (by rw [show decide (0 + 1 = 0) = false from rfl, ← HY.out]; exact HST)
            exact ⟨0 + 1, k, f, [y0, y1, y2, y3], by go_num, rfl, by omega, by omega, by omega, hr1, hide (HB9.out.put HW9.out)⟩
          case measure => simp [intOf]; omega
    · have hm0 : ((m : Int) == 0) = false := by simp; omega
      rw [decide_eq_false hm] at HST
      have hq93 := at_eq s i 93
      have HAI := hide (fun W => HAT.out i W)
      by_cases h93 : byI s i = some 93
      · have hc93 := at_is h93
        rw [hc93] at HAI
        rw [if_neg (by rw [h93]; simp)] at HST
        have HNX := hide (show some (S, rest s i) = X from HST)
        have hib := (by_lt h93).1
        clear HST HL h93 hq93 hc93
        obtain ⟨x0, x1, x2, x3, rfl⟩ := four_of HB.out.wide
        go_wp2_with fail
        refine (HAI.out _).mono ?_; rintro e w2 ⟨rfl, rfl⟩
        have HFIN := hide (show Y = some (.mk 1 [x0, x1, x2, x3] [], rest s (i + 1)) by rw [HX.out, ← HNX.out, ← rest_tail]; try rfl)
        clear HX HNX
        have a0 := HB.out.b1.cell (i := 0) rfl
        have a1 := HB.out.b1.cell (i := 1) rfl
        have a2 := HB.out.b1.cell (i := 2) rfl
        have a3 := HB.out.b1.cell (i := 3) rfl
        have a4 := HB.out.b1.cell (i := 4) rfl
        have a5 := HB.out.b1.cell (i := 5) rfl
        have b0 := HB.out.b2.cell (i := 0) rfl
        have b1 := HB.out.b2.cell (i := 1) rfl
        have b2 := HB.out.b2.cell (i := 2) rfl
        have b3 := HB.out.b2.cell (i := 3) rfl
        have b4 := HB.out.b2.cell (i := 4) rfl
        have b5 := HB.out.b2.cell (i := 5) rfl
        have af := fun i => HB.out.b1.frozen i
        go_wp2
        refine bodyPost_ret (results_nd rfl _ _ w.heap.size (ndL 1 [x0, x1, x2, x3] (.slice none 0 0)) _ rfl rfl (nd_putT HB.out.b1 1 x0 x1 x2 x3 (.slice none 0 0)) rfl) rfl ?_
        exact ResI.yes (j := i + 1) HFIN.out (by go_num) (by omega) (NdAt.leaf _ _ 1 HB.out.wide) (BelowKeep HB.out.below (nd_keep _ w.heap.size 1 x0 x1 x2 x3 (.slice none 0 0)) (Nat.le_refl _))
      · have hc93 : (atI s i != 93) = true := by rw [show (93 : Int) = ((93 : Nat) : Int) from rfl, bne, hq93, decide_eq_false h93]; rfl
        rw [if_pos (.inr (fun e => h93 (by
          cases hb : byI s i with
          | none => rw [hb] at e; cases e
          | some c => rw [hb] at e; have : c = 93 := e; rw [this])))] at HST
        rw [let_rest] at HST
        obtain ⟨ai, hai⟩ : ∃ a, atI s i = a := ⟨_, rfl⟩
        rw [hai] at HAI hc93
        clear h93 hq93 hai hm
        go_wp2_with fail
        refine (HAI.out _).mono ?_; rintro e w1 ⟨rfl, rfl⟩
        go_wp2_with fail
        refine (HLT.out i _ (by omega)).mono ?_; rintro e w2 hr
        obtain ⟨hb2, hr⟩ := hr.cases
        replace HB := hide (HB.out.low hb2)
        clear hb2
        obtain ⟨x0, x1, x2, x3, rfl⟩ := four_of HB.out.wide
        rcases hr with ⟨hx, rfl⟩ | ⟨a, k, hx, rfl⟩
        · rw [hx] at HST
          have HNX := hide (show (none : Option (List Nat × ByteArray)) = X from HST)
          have HNO := hide (show Y = none by rw [HX.out, ← HNX.out])
          clear hx HST HNX HL
          have a0 := HB.out.b1.cell (i := 0) rfl
          have a1 := HB.out.b1.cell (i := 1) rfl
          have a2 := HB.out.b1.cell (i := 2) rfl
          have a3 := HB.out.b1.cell (i := 3) rfl
          have a4 := HB.out.b1.cell (i := 4) rfl
          have a5 := HB.out.b1.cell (i := 5) rfl
          have b0 := HB.out.b2.cell (i := 0) rfl
          have b1 := HB.out.b2.cell (i := 1) rfl
          have b2 := HB.out.b2.cell (i := 2) rfl
          have b3 := HB.out.b2.cell (i := 3) rfl
          have b4 := HB.out.b2.cell (i := 4) rfl
          have b5 := HB.out.b2.cell (i := 5) rfl
          have af := fun i => HB.out.b1.frozen i
          go_wp2
          refine bodyPost_ret (results_nd rfl _ _ w.heap.size (ndL 1 [x0, x1, x2, x3] (.slice none 0 0)) _ rfl rfl (nd_putT HB.out.b1 1 x0 x1 x2 x3 (.slice none 0 0)) rfl) rfl ?_
          exact ResI.no HNO.out (NdAt.leaf _ _ 1 HB.out.wide) (BelowKeep HB.out.below (nd_keep _ w.heap.size 1 x0 x1 x2 x3 (.slice none 0 0)) (Nat.le_refl _))
        · have hlb := let_ib hx
          rw [hx] at HST
          simp only [Option.map_some] at HST
          rw [isB_rest] at HST
          have HQ := hide (at_eq s k 45)
          have hq45 := at_eq s k 45
          obtain ⟨ak, hak⟩ : ∃ a, atI s k = a := ⟨_, rfl⟩
          have HAK := hide (fun W => HAT.out k W)
          rw [hak] at HAK hq45
          clear hx HL hak hc93
          go_wp2_with fail
          refine (HAK.out _).mono ?_; rintro e w3 ⟨rfl, rfl⟩
          by_cases h45 : byI s k = some 45
          · rw [decide_eq_true h45] at hq45 HST
            rw [if_pos rfl, rest_tail, let_rest] at HST
            clear h45
            go_wp2_with fail
            refine (HLT.out (k + 1) _ (by omega)).mono ?_; rintro e w4 hr
            obtain ⟨hb4, hr⟩ := hr.cases
            replace HB := hide (HB.out.low hb4)
            clear hb4
            rcases hr with ⟨hx, rfl⟩ | ⟨b, k2, hx, rfl⟩
            · rw [hx] at HST
              have HNX := hide (show (none : Option (List Nat × ByteArray)) = X from HST)
              have HNO := hide (show Y = none by rw [HX.out, ← HNX.out])
              clear hx HST HNX
              have a0 := HB.out.b1.cell (i := 0) rfl
              have a1 := HB.out.b1.cell (i := 1) rfl
              have a2 := HB.out.b1.cell (i := 2) rfl
              have a3 := HB.out.b1.cell (i := 3) rfl
              have a4 := HB.out.b1.cell (i := 4) rfl
              have a5 := HB.out.b1.cell (i := 5) rfl
              have b0 := HB.out.b2.cell (i := 0) rfl
              have b1 := HB.out.b2.cell (i := 1) rfl
              have b2 := HB.out.b2.cell (i := 2) rfl
              have b3 := HB.out.b2.cell (i := 3) rfl
              have b4 := HB.out.b2.cell (i := 4) rfl
              have b5 := HB.out.b2.cell (i := 5) rfl
              have af := fun i => HB.out.b1.frozen i
              go_wp2
              refine bodyPost_ret (results_nd rfl _ _ w.heap.size (ndL 1 [x0, x1, x2, x3] (.slice none 0 0)) _ rfl rfl (nd_putT HB.out.b1 1 x0 x1 x2 x3 (.slice none 0 0)) rfl) rfl ?_
              exact ResI.no HNO.out (NdAt.leaf _ _ 1 HB.out.wide) (BelowKeep HB.out.below (nd_keep _ w.heap.size 1 x0 x1 x2 x3 (.slice none 0 0)) (Nat.le_refl _))
            · have hlb2 := let_ib hx
              rw [hx] at HST
              simp only [Option.map_some] at HST
              clear hx
              by_cases hba : b < a
              · rw [if_pos hba] at HST
                have hba2 : (b : Int) < (a : Int) := by omega
                have HNX := hide (show (none : Option (List Nat × ByteArray)) = X from HST)
                have HNO := hide (show Y = none by rw [HX.out, ← HNX.out])
                clear HST HNX
                have a0 := HB.out.b1.cell (i := 0) rfl
                have a1 := HB.out.b1.cell (i := 1) rfl
                have a2 := HB.out.b1.cell (i := 2) rfl
                have a3 := HB.out.b1.cell (i := 3) rfl
                have a4 := HB.out.b1.cell (i := 4) rfl
                have a5 := HB.out.b1.cell (i := 5) rfl
                have b0 := HB.out.b2.cell (i := 0) rfl
                have b1 := HB.out.b2.cell (i := 1) rfl
                have b2 := HB.out.b2.cell (i := 2) rfl
                have b3 := HB.out.b2.cell (i := 3) rfl
                have b4 := HB.out.b2.cell (i := 4) rfl
                have b5 := HB.out.b2.cell (i := 5) rfl
                have af := fun i => HB.out.b1.frozen i
                go_wp2
                refine bodyPost_ret (results_nd rfl _ _ w.heap.size (ndL 1 [x0, x1, x2, x3] (.slice none 0 0)) _ rfl rfl (nd_putT HB.out.b1 1 x0 x1 x2 x3 (.slice none 0 0)) rfl) rfl ?_
                exact ResI.no HNO.out (NdAt.leaf _ _ 1 HB.out.wide) (BelowKeep HB.out.below (nd_keep _ w.heap.size 1 x0 x1 x2 x3 (.slice none 0 0)) (Nat.le_refl _))
              · rw [if_neg hba] at HST
                have hba2 : ¬ (b : Int) < (a : Int) := by omega
                have c0 := HB.out.b2.cell (i := 0) rfl
                have c1 := HB.out.b2.cell (i := 1) rfl
                have c2 := HB.out.b2.cell (i := 2) rfl
                have c3 := HB.out.b2.cell (i := 3) rfl
                have c4 := HB.out.b2.cell (i := 4) rfl
                have c5 := HB.out.b2.cell (i := 5) rfl
                have cf := fun i => HB.out.b2.frozen i
                go_wp2_with fail
                refine (rwith_is x0 x1 x2 x3 a b _ HB.out.wide (by omega) (by omega)).mono ?_; rintro e w9 ⟨⟨y0, y1, y2, y3, hy, rfl⟩, hb9⟩
                have HB9 := hide (HB.out.low hb9)
                have HW9 := hide (show W64 [y0, y1, y2, y3] by rw [← hy]; exact spanS_w HB.out.wide _ _)
                have HY := hide hy
                clear hb9 hy c0 c1 c2 c3 c4 c5 cf
                have c0 := HB9.out.b2.cell (i := 0) rfl
                have c1 := HB9.out.b2.cell (i := 1) rfl
                have c2 := HB9.out.b2.cell (i := 2) rfl
                have c3 := HB9.out.b2.cell (i := 3) rfl
                have c4 := HB9.out.b2.cell (i := 4) rfl
                have c5 := HB9.out.b2.cell (i := 5) rfl
                have cf := fun i => HB9.out.b2.frozen i
                go_wp2_with fail
                go_roundw
                case rel =>
                  have hr1 : Hid (braL f (decide (m + 1 = 0)) (rest s k2) [y0, y1, y2, y3] = X) := hide (by rw [show decide (m + 1 = 0) = false from rfl, ← HY.out]; exact HST)
                  exact ⟨m + 1, k2, f, [y0, y1, y2, y3], by go_num, rfl, by omega, by omega, by omega, hr1, hide (HB9.out.put HW9.out)⟩
                case measure => simp [intOf]; omega
          · rw [decide_eq_false h45] at hq45 HST
            rw [if_neg (by decide)] at HST
            rw [show 1 = a + 1 - a by omega] at HST
            clear h45
            have c0 := HB.out.b2.cell (i := 0) rfl
            have c1 := HB.out.b2.cell (i := 1) rfl
            have c2 := HB.out.b2.cell (i := 2) rfl
            have c3 := HB.out.b2.cell (i := 3) rfl
            have c4 := HB.out.b2.cell (i := 4) rfl
            have c5 := HB.out.b2.cell (i := 5) rfl
            have cf := fun i => HB.out.b2.frozen i
            go_wp2_with fail
            refine (rwith_is x0 x1 x2 x3 a a _ HB.out.wide (by omega) (by omega)).mono ?_; rintro e w9 ⟨⟨y0, y1, y2, y3, hy, rfl⟩, hb9⟩
            have HB9 := hide (HB.out.low hb9)
            have HW9 := hide (show W64 [y0, y1, y2, y3] by rw [← hy]; exact spanS_w HB.out.wide _ _)
            have HY := hide hy
            clear hb9 hy c0 c1 c2 c3 c4 c5 cf
            have c0 := HB9.out.b2.cell (i := 0) rfl
            have c1 := HB9.out.b2.cell (i := 1) rfl
            have c2 := HB9.out.b2.cell (i := 2) rfl
            have c3 := HB9.out.b2.cell (i := 3) rfl
            have c4 := HB9.out.b2.cell (i := 4) rfl
            have c5 := HB9.out.b2.cell (i := 5) rfl
            have cf := fun i => HB9.out.b2.frozen i
            go_wp2_with fail
            go_roundw
            case rel =>
              have hr1 : Hid (braL f (decide (m + 1 = 0)) (rest s k) [y0, y1, y2, y3] = X) := hide (by rw [show decide (m + 1 = 0) = false from rfl, ← HY.out]; exact HST)
              exact ⟨m + 1, k, f, [y0, y1, y2, y3], by go_num, rfl, by omega, by omega, by omega, hr1, hide (HB9.out.put HW9.out)⟩
            case measure => simp [intOf]; omega
end Go.Proofs.YtfamoikmfbpigaaDoor
namespace Go.Proofs.YtfamoikmfbpigaaDoor
open Go.RowKit

set_option maxHeartbeats 1000000 in
set_option maxRecDepth 100000 in
theorem rjoin_any (B : Nat) (k : Int) (A : Option Addr) (m cap : Nat) (L : List Nd) (w : World) (hl : L.length = m) (hmc : m ≤ cap) (hcap : cap ≤ maxLen) (hm : m ≤ 1000000) (h : NdsX (fun b => B ≤ b) w L A 0) :
    Calls Tryd.prog 41 #[.int .i64 k, .slice A m cap] w fun e w' => ∃ cs, e = .returned (.agg cs.toArray) ∧ NdAt B w' (joinedE k L) cs ∧ Below w.heap.size w w' := by
  have HN := hide h
  clear h
  by_cases hm0 : m = 0
  · subst hm0
    have : L = [] := List.eq_nil_of_length_eq_zero hl
    subst this
    go_enter Tryd.func41, Tryd.ntmps41
    go_wp2
    refine bodyPost_ret (results_cell_row rfl _ _ w.heap.size 33 #[.int .i64 0, .int .u64 0, .int .u64 0, .int .u64 0, .int .u64 0, .slice none 0 0] (0, 0) _ rfl (Blk.new w 33 [.int .i64 0, .int .u64 0, .int .u64 0, .int .u64 0, .int .u64 0, .slice none 0 0]) Tryd.underlying33 rfl (by kernel_rfl)) rfl ?_
    have hk : Below w.heap.size w (w.alloc (.cells #[.int .i64 0, .int .u64 0, .int .u64 0, .int .u64 0, .int .u64 0, .slice none 0 0] 33)) := (Below.refl _ _).alloc (Nat.le_refl _) _
    exact ⟨ndL 0 noSet (.slice none 0 0), rfl, NdAt.leaf _ _ 0 noSet_w, hk⟩
  by_cases hm1 : m = 1
  · subst hm1
    obtain ⟨x, rfl⟩ : ∃ x, L = [x] := by
      match L, hl with
      | [x], _ => exact ⟨x, rfl⟩
    obtain ⟨b, o, cs, rfl, hb, -, hc, hx⟩ := HN.out.get 0 x rfl
    obtain ⟨k', x0, x1, x2, x3, A', m', cap', rfl, -, -⟩ := hx.form
    have a0 := hc 0 _ rfl
    have a1 := hc 1 _ rfl
    have a2 := hc 2 _ rfl
    have a3 := hc 3 _ rfl
    have a4 := hc 4 _ rfl
    have a5 := hc 5 _ rfl
    rw [show o + (0 + 0) * 6 + 0 = o by omega] at a0
    rw [show o + (0 + 0) * 6 + 1 = o + 1 by omega] at a1
    rw [show o + (0 + 0) * 6 + 2 = o + 2 by omega] at a2
    rw [show o + (0 + 0) * 6 + 3 = o + 3 by omega] at a3
    rw [show o + (0 + 0) * 6 + 4 = o + 4 by omega] at a4
    rw [show o + (0 + 0) * 6 + 5 = o + 5 by omega] at a5
    have HX := hide hx
    clear hc hx hl
    go_enter Tryd.func41, Tryd.ntmps41
    go_wp2
    refine bodyPost_ret (results_cell_row rfl _ _ w.heap.size 33 #[.int .i64 k', .int .u64 (x0 : Int), .int .u64 (x1 : Int), .int .u64 (x2 : Int), .int .u64 (x3 : Int), .slice A' m' cap'] (0, 0) _ rfl (Blk.new w 33 [.int .i64 k', .int .u64 (x0 : Int), .int .u64 (x1 : Int), .int .u64 (x2 : Int), .int .u64 (x3 : Int), .slice A' m' cap']) Tryd.underlying33 rfl (by kernel_rfl)) rfl ?_
    have hk : Below w.heap.size w (w.alloc (.cells #[.int .i64 k', .int .u64 (x0 : Int), .int .u64 (x1 : Int), .int .u64 (x2 : Int), .int .u64 (x3 : Int), .slice A' m' cap'] 33)) := (Below.refl _ _).alloc (Nat.le_refl _) _
    exact ⟨ndL k' [x0, x1, x2, x3] (.slice A' m' cap'), rfl, NdX.at (fun b h => h) _ _ (HX.out.low hk), hk⟩
  · have HJ := hide (show joinedE k L = .mk k noSet L by
      match L, hl with
      | [], hl => exact absurd hl.symm hm0
      | [x], hl => exact absurd hl.symm hm1
      | x :: y :: l, _ => rfl)
    have q0 : ((m : Int) == 0) = false := by simp; omega
    have q1 : ((m : Int) == 1) = false := by simp; omega
    go_enter Tryd.func41, Tryd.ntmps41
    go_wp2
    refine bodyPost_ret (results_cell_row rfl _ _ w.heap.size 33 #[.int .i64 k, .int .u64 0, .int .u64 0, .int .u64 0, .int .u64 0, .slice A m cap] (0, 0) _ rfl (Blk.new w 33 [.int .i64 k, .int .u64 0, .int .u64 0, .int .u64 0, .int .u64 0, .slice A m cap]) Tryd.underlying33 rfl (by kernel_rfl)) rfl ?_
    have hk : Below w.heap.size w (w.alloc (.cells #[.int .i64 k, .int .u64 0, .int .u64 0, .int .u64 0, .int .u64 0, .slice A m cap] 33)) := (Below.refl _ _).alloc (Nat.le_refl _) _
    rw [HJ.out]
    exact ⟨ndL k noSet (.slice A m cap), rfl, NdX.mkat (fun b h => h) k L A m cap hl hmc hcap (HN.out.low hk), hk⟩
theorem rbra_any (s : ByteArray) (i : Nat) (w : World) (hs : s.size ≤ 90000) (hi : i ≤ s.size) :
    Calls Tryd.prog 51 #[.string s, .int .i64 (i : Int)] w (ResI s w (braE (rest s i))) := by
  by_cases h : byI s i = some 94
  · exact rbra_yes s i w hs hi h
  · exact rbra_no s i w hs hi h
theorem ResI.cases {s : ByteArray} {w : World} {x : Option (Nd × ByteArray)} {e : Ending} {w' : World} (h : ResI s w x e w') : Below w.heap.size w w' ∧ ∃ (n : Nd) (k : Int) (x0 x1 x2 x3 : Nat) (A : Option Addr) (m cap : Nat), NdAt w.heap.size w' n (ndL k [x0, x1, x2, x3] (.slice A m cap)) ∧
    ((x = none ∧ e = .returned (.tuple #[ndV k x0 x1 x2 x3 A m cap, .int .i64 (-1)])) ∨ ∃ j : Nat, x = some (n, rest s j) ∧ e = .returned (.tuple #[ndV k x0 x1 x2 x3 A m cap, .int .i64 (j : Int)]) ∧ j ≤ s.size) := by
  obtain ⟨n, k, x0, x1, x2, x3, A, m, cap, q, he, hn, hb, hx⟩ := h
  refine ⟨hb, n, k, x0, x1, x2, x3, A, m, cap, hn, ?_⟩
  rcases hx with ⟨h1, rfl⟩ | ⟨j, h1, rfl, h3⟩
  · exact .inl ⟨h1, he⟩
  · exact .inr ⟨j, h1, he, h3⟩
theorem ResI.low {s : ByteArray} {w V : World} {x : Option (Nd × ByteArray)} {e : Ending} {w' : World} (hb : Below w.heap.size w V) (h : ResI s V x e w') : ResI s w x e w' := by
  obtain ⟨n, k, x0, x1, x2, x3, A, m, cap, q, he, hn, hb2, hx⟩ := h
  exact ⟨n, k, x0, x1, x2, x3, A, m, cap, q, he, hn.low hb.size, hb.trans (hb2.mono hb.size), hx⟩
theorem spec_lit : ∀ b : Fin 256, b.val ≠ 40 → b.val ≠ 91 → b.val ≠ 46 → b.val ≠ 92 → ((specE b.val = true ∧ (false = true ∨ b.val ≠ 45 ∧ b.val ≠ 94)) ↔ (b.val = 41 ∨ b.val = 93 ∨ b.val = 124 ∨ b.val = 42 ∨ b.val = 43 ∨ b.val = 63)) := by decide +kernel
theorem atom_let (R : ByteArray → Option (Nd × ByteArray)) (s : ByteArray) (i : Nat) (h40 : byI s i ≠ some 40) (h91 : byI s i ≠ some 91) (h46 : byI s i ≠ some 46) :
    atomE R (rest s i) = (lettI false s i).map fun p => (.mk 1 (spanS noSet p.1 1) [], rest s p.2) := by
  unfold atomE lettI
  rw [tk_rest]
  cases hb : byI s i with
  | none => rfl
  | some b =>
    rw [hb] at h40 h91 h46
    have e1 : b ≠ 40 := fun e => h40 (by rw [e])
    have e2 : b ≠ 91 := fun e => h91 (by rw [e])
    have e3 : b ≠ 46 := fun e => h46 (by rw [e])
    simp only [Option.map_some]
    rw [if_neg e1, if_neg e2, if_neg e3]
    by_cases e4 : b = 92
    · rw [if_pos e4, if_pos e4, esc_rest]
      cases escI s (i + 1) with
      | none => rfl
      | some p => rfl
    · rw [if_neg e4, if_neg e4]
      have h := spec_lit ⟨b, (by_lt hb).2.1⟩ e1 e2 e3 e4
      by_cases h2 : b = 41 ∨ b = 93 ∨ b = 124 ∨ b = 42 ∨ b = 43 ∨ b = 63
      · rw [if_pos h2, if_pos (h.2 h2)]; rfl
      · rw [if_neg h2, if_neg (fun h3 => h2 (h.1 h3))]; rfl
theorem atom_none (R : ByteArray → Option (Nd × ByteArray)) (s : ByteArray) (i : Nat) (h : lettI false s i = none) (h40 : byI s i ≠ some 40) (h91 : byI s i ≠ some 91) (h46 : byI s i ≠ some 46) : atomE R (rest s i) = none := by rw [atom_let R s i h40 h91 h46, h]; rfl
/-- What atom's box holds. -/
structure AtB (w W : World) : Prop where
  b1 : Blk W w.heap.size 33 (ndL 0 noSet (.slice none 0 0))
  below : Below w.heap.size w W
theorem AtB.low {w W V : World} (h : AtB w W) (hb : Below W.heap.size W V) : AtB w V := ⟨h.b1.below hb, h.below.trans (hb.mono h.below.size)⟩
theorem at_new (w : World) : AtB w (w.alloc (.cells #[.int .i64 0, .int .u64 0, .int .u64 0, .int .u64 0, .int .u64 0, .slice none 0 0] 33)) := ⟨Blk.new _ _ _, (Below.refl _ _).alloc (Nat.le_refl _) _⟩
theorem AtB.end {w W : World} (h : AtB w W) {n : Nd} {k : Int} {x0 x1 x2 x3 : Nat} {A : Option Addr} {m cap : Nat} (hn : NdX (fun b => w.heap.size < b) W n (ndL k [x0, x1, x2, x3] (.slice A m cap))) :
    Blk (ndSet W w.heap.size k x0 x1 x2 x3 (.slice A m cap)) w.heap.size 33 (ndL k [x0, x1, x2, x3] (.slice A m cap)) ∧ NdAt w.heap.size (ndSet W w.heap.size k x0 x1 x2 x3 (.slice A m cap)) n (ndL k [x0, x1, x2, x3] (.slice A m cap)) ∧ Below w.heap.size w (ndSet W w.heap.size k x0 x1 x2 x3 (.slice A m cap)) :=
  have hk := nd_keep W w.heap.size k x0 x1 x2 x3 (.slice A m cap)
  ⟨nd_putT h.b1 k x0 x1 x2 x3 _, NdX.at (fun b hb => by omega) _ _ (hn.keepR (fun b hb => by omega) hk), BelowKeep h.below hk (Nat.le_refl _)⟩
theorem NdX.leaf (P : Nat → Prop) (W : World) (k : Int) {S : List Nat} (hS : W64 S) : NdX P W (.mk k S []) (ndL k S (.slice none 0 0)) := by
  unfold NdX
  exact ⟨none, 0, rfl, hS, Nat.le_refl _, by unfold maxLen; omega, by unfold NdsX; trivial⟩
set_option maxHeartbeats 4000000 in
set_option maxRecDepth 100000 in
theorem ratom_let (R : ByteArray → Option (Nd × ByteArray)) (s : ByteArray) (i : Nat) (w : World) (hs : s.size ≤ 90000) (hi : i ≤ s.size) (h40 : byI s i ≠ some 40) (h91 : byI s i ≠ some 91) (h46 : byI s i ≠ some 46) :
    Calls Tryd.prog 42 #[.string s, .int .i64 (i : Int)] w (ResI s w (atomE R (rest s i))) := by
  have HE := hide (atom_let R s i h40 h91 h46)
  have e40 := at_eq s i 40
  have e91 := at_eq s i 91
  have e46 := at_eq s i 46
  rw [decide_eq_false h40] at e40
  rw [decide_eq_false h91] at e91
  rw [decide_eq_false h46] at e46
  have HA := hide (fun (W : World) => rat_any s i W (by omega))
  obtain ⟨c, hc⟩ : ∃ c, atI s i = c := ⟨_, rfl⟩
  rw [hc] at HA e40 e91 e46
  have HL := hide (fun (W : World) => rlet_any false s i W (by omega) (by omega))
  obtain ⟨Y, hY⟩ : ∃ Y, atomE R (rest s i) = Y := ⟨_, rfl⟩
  rw [hY] at HE ⊢
  have HB0 := hide (at_new w)
  clear hY hc h40 h91 h46
  go_enter Tryd.func42, Tryd.ntmps42
  go_wp2_with fail
  refine (HA.out _).mono ?_; rintro e w1 ⟨rfl, rfl⟩
  go_wp2_with fail
  refine (HL.out _).mono ?_; rintro e w2 hr
  obtain ⟨hb2, hr⟩ := hr.cases
  have HB2 := hide (HB0.out.low hb2)
  clear hb2
  rcases hr with ⟨hx, rfl⟩ | ⟨b, k, hx, rfl⟩
  · have HN := hide (show Y = none by rw [HE.out, hx]; rfl)
    clear hx HE
    have b0 := HB2.out.b1.cell (i := 0) rfl
    have b1 := HB2.out.b1.cell (i := 1) rfl
    have b2 := HB2.out.b1.cell (i := 2) rfl
    have b3 := HB2.out.b1.cell (i := 3) rfl
    have b4 := HB2.out.b1.cell (i := 4) rfl
    have b5 := HB2.out.b1.cell (i := 5) rfl
    have bf := fun i => HB2.out.b1.frozen i
    go_wp2
    obtain ⟨g1, g2, g3⟩ := HB2.out.end (NdX.leaf _ _ 0 noSet_w)
    refine bodyPost_ret (results_nd rfl _ _ w.heap.size (ndL 0 [0, 0, 0, 0] (.slice none 0 0)) _ rfl rfl g1 rfl) rfl ?_
    exact ResI.no HN.out g2 g3
  · have hb := let_ib hx
    have HN := hide (show Y = some (.mk 1 (spanS noSet b (b + 1 - b)) [], rest s k) by rw [HE.out, hx, show b + 1 - b = 1 by omega]; rfl)
    clear hx HE
    go_wp2_with fail
    refine (rwith_is 0 0 0 0 b b _ noSet_w hb.1 hb.1).mono ?_; rintro e w3 ⟨⟨y0, y1, y2, y3, hy, rfl⟩, hb3⟩
    have HB3 := hide (HB2.out.low hb3)
    have HW := hide (show W64 [y0, y1, y2, y3] by rw [← hy]; exact spanS_w noSet_w _ _)
    have HN2 := hide (show Y = some (.mk 1 [y0, y1, y2, y3] [], rest s k) by rw [HN.out, ← hy]; rfl)
    clear hb3 hy HN
    have b0 := HB3.out.b1.cell (i := 0) rfl
    have b1 := HB3.out.b1.cell (i := 1) rfl
    have b2 := HB3.out.b1.cell (i := 2) rfl
    have b3 := HB3.out.b1.cell (i := 3) rfl
    have b4 := HB3.out.b1.cell (i := 4) rfl
    have b5 := HB3.out.b1.cell (i := 5) rfl
    have bf := fun i => HB3.out.b1.frozen i
    go_wp2
    obtain ⟨g1, g2, g3⟩ := HB3.out.end (NdX.leaf _ _ 1 HW.out)
    refine bodyPost_ret (results_nd rfl _ _ w.heap.size (ndL 1 [y0, y1, y2, y3] (.slice none 0 0)) _ rfl rfl g1 rfl) rfl ?_
    exact ResI.yes (j := k) HN2.out rfl (by omega) g2 g3
set_option maxHeartbeats 4000000 in
set_option maxRecDepth 100000 in
theorem ratom_dot (R : ByteArray → Option (Nd × ByteArray)) (s : ByteArray) (i : Nat) (w : World) (hs : s.size ≤ 90000) (h46 : byI s i = some 46) :
    Calls Tryd.prog 42 #[.string s, .int .i64 (i : Int)] w (ResI s w (atomE R (rest s i))) := by
  have HE := hide (show atomE R (rest s i) = some (.mk 1 (spanS (spanS noSet 0 10) 11 245) [], rest s (i + 1)) by unfold atomE; rw [tk_rest, h46]; rfl)
  have hi := (by_lt h46).1
  have HA := hide (fun (W : World) => rat_any s i W (by omega))
  rw [at_is h46] at HA
  obtain ⟨Y, hY⟩ : ∃ Y, atomE R (rest s i) = Y := ⟨_, rfl⟩
  rw [hY] at HE ⊢
  have HB0 := hide (at_new w)
  clear hY h46
  go_enter Tryd.func42, Tryd.ntmps42
  go_wp2_with fail
  refine (HA.out _).mono ?_; rintro e w1 ⟨rfl, rfl⟩
  go_wp2_with fail
  refine (rwith_is 0 0 0 0 0 9 _ noSet_w (by omega) (by omega)).mono ?_; rintro e w2 ⟨⟨y0, y1, y2, y3, hy, rfl⟩, hb2⟩
  have HW := hide (show W64 [y0, y1, y2, y3] by rw [← hy]; exact spanS_w noSet_w _ _)
  have HB2 := hide (HB0.out.low hb2)
  have HY := hide hy
  clear hb2 hy
  go_wp2_with fail
  refine (rwith_is y0 y1 y2 y3 11 255 _ HW.out (by omega) (by omega)).mono ?_; rintro e w3 ⟨⟨z0, z1, z2, z3, hz, rfl⟩, hb3⟩
  have HB3 := hide (HB2.out.low hb3)
  have HN2 := hide (show Y = some (.mk 1 [z0, z1, z2, z3] [], rest s (i + 1)) by rw [HE.out, ← hz, ← HY.out]; rfl)
  have HW3 := hide (show W64 [z0, z1, z2, z3] by rw [← hz]; exact spanS_w HW.out _ _)
  clear hb3 hz HY HE
  have b0 := HB3.out.b1.cell (i := 0) rfl
  have b1 := HB3.out.b1.cell (i := 1) rfl
  have b2 := HB3.out.b1.cell (i := 2) rfl
  have b3 := HB3.out.b1.cell (i := 3) rfl
  have b4 := HB3.out.b1.cell (i := 4) rfl
  have b5 := HB3.out.b1.cell (i := 5) rfl
  have bf := fun i => HB3.out.b1.frozen i
  go_wp2
  obtain ⟨g1, g2, g3⟩ := HB3.out.end (NdX.leaf _ _ 1 HW3.out)
  refine bodyPost_ret (results_nd rfl _ _ w.heap.size (ndL 1 [z0, z1, z2, z3] (.slice none 0 0)) _ rfl rfl g1 rfl) rfl ?_
  exact ResI.yes (j := i + 1) HN2.out (by go_num) (by omega) g2 g3
set_option maxHeartbeats 4000000 in
set_option maxRecDepth 100000 in
theorem ratom_bra (R : ByteArray → Option (Nd × ByteArray)) (s : ByteArray) (i : Nat) (w : World) (hs : s.size ≤ 90000) (h91 : byI s i = some 91) :
    Calls Tryd.prog 42 #[.string s, .int .i64 (i : Int)] w (ResI s w (atomE R (rest s i))) := by
  have HE := hide (show atomE R (rest s i) = braE (rest s (i + 1)) by unfold atomE; rw [tk_rest, h91]; rfl)
  have hi := (by_lt h91).1
  have HA := hide (fun (W : World) => rat_any s i W (by omega))
  rw [at_is h91] at HA
  have HBR := hide (fun (W : World) => rbra_any s (i + 1) W hs (by omega))
  obtain ⟨Y, hY⟩ : ∃ Y, atomE R (rest s i) = Y := ⟨_, rfl⟩
  rw [hY] at HE ⊢
  rw [← HE.out] at HBR
  have HB0 := hide (at_new w)
  clear hY h91 HE
  rw [show (((i + 1 : Nat) : Int)) = (i : Int) + 1 by omega] at HBR
  go_enter Tryd.func42, Tryd.ntmps42
  go_wp2_with fail
  refine (HA.out _).mono ?_; rintro e w1 ⟨rfl, rfl⟩
  go_wp2_with fail
  refine (HBR.out _).mono ?_; rintro e w2 hr
  obtain ⟨hb2, n, k, x0, x1, x2, x3, A, m, cap, hn, hr⟩ := hr.cases
  have hbl := HB0.out.b1.lt
  have HB2 := hide (HB0.out.low hb2)
  have HN := hide (NdX.keep (Q := fun b => w.heap.size < b) (fun b hb _ => Nat.lt_of_lt_of_le hbl hb) (Nat.le_refl _) (fun _ _ _ _ h => h) _ _ (NdX.of _ _ hn))
  clear hb2 hn hbl
  rcases hr with ⟨hx, rfl⟩ | ⟨j, hx, rfl, hj⟩
  · have HX := hide hx
    clear hx
    have b0 := HB2.out.b1.cell (i := 0) rfl
    have b1 := HB2.out.b1.cell (i := 1) rfl
    have b2 := HB2.out.b1.cell (i := 2) rfl
    have b3 := HB2.out.b1.cell (i := 3) rfl
    have b4 := HB2.out.b1.cell (i := 4) rfl
    have b5 := HB2.out.b1.cell (i := 5) rfl
    have bf := fun i => HB2.out.b1.frozen i
    go_wp2
    obtain ⟨g1, g2, g3⟩ := HB2.out.end HN.out
    refine bodyPost_ret (results_nd rfl _ _ w.heap.size (ndL k [x0, x1, x2, x3] (.slice A m cap)) _ rfl rfl g1 rfl) rfl ?_
    exact ResI.no HX.out g2 g3
  · have HX := hide hx
    clear hx
    have b0 := HB2.out.b1.cell (i := 0) rfl
    have b1 := HB2.out.b1.cell (i := 1) rfl
    have b2 := HB2.out.b1.cell (i := 2) rfl
    have b3 := HB2.out.b1.cell (i := 3) rfl
    have b4 := HB2.out.b1.cell (i := 4) rfl
    have b5 := HB2.out.b1.cell (i := 5) rfl
    have bf := fun i => HB2.out.b1.frozen i
    go_wp2
    obtain ⟨g1, g2, g3⟩ := HB2.out.end HN.out
    refine bodyPost_ret (results_nd rfl _ _ w.heap.size (ndL k [x0, x1, x2, x3] (.slice A m cap)) _ rfl rfl g1 rfl) rfl ?_
    exact ResI.yes HX.out rfl hj g2 g3
set_option maxHeartbeats 4000000 in
set_option maxRecDepth 100000 in
theorem ratom_par (R : ByteArray → Option (Nd × ByteArray)) (s : ByteArray) (i : Nat) (w : World) (hs : s.size ≤ 90000) (h40 : byI s i = some 40) (hR : ∀ W, Calls Tryd.prog 28 #[.string s, .int .i64 ((i + 1 : Nat) : Int)] W (ResI s W (R (rest s (i + 1))))) :
    Calls Tryd.prog 42 #[.string s, .int .i64 (i : Int)] w (ResI s w (atomE R (rest s i))) := by
  have HE := hide (show atomE R (rest s i) = (match R (rest s (i + 1)) with | none => none | some (n, t2) => if isB t2 41 = true then some (n, t2.extract 1 t2.size) else none) by unfold atomE; rw [tk_rest, h40]; rfl)
  have hi := (by_lt h40).1
  have HA := hide (fun (W : World) => rat_any s i W (by omega))
  rw [at_is h40] at HA
  have HBR := hide hR
  obtain ⟨Y, hY⟩ : ∃ Y, atomE R (rest s i) = Y := ⟨_, rfl⟩
  rw [hY] at HE ⊢
  obtain ⟨Z, hZ⟩ : ∃ Z, R (rest s (i + 1)) = Z := ⟨_, rfl⟩
  rw [hZ] at HE HBR
  have HB0 := hide (at_new w)
  clear hY h40 hR hZ
  rw [show (((i + 1 : Nat) : Int)) = (i : Int) + 1 by omega] at HBR
  have HAT := hide (fun (j : Nat) (W : World) => rat_any s j W (by omega))
  go_enter Tryd.func42, Tryd.ntmps42
  go_wp2_with fail
  refine (HA.out _).mono ?_; rintro e w1 ⟨rfl, rfl⟩
  go_wp2_with fail
  refine (HBR.out _).mono ?_; rintro e w2 hr
  obtain ⟨hb2, n, k, x0, x1, x2, x3, A, m, cap, hn, hr⟩ := hr.cases
  have hbl := HB0.out.b1.lt
  have HN := hide (NdX.keep (Q := fun b => w.heap.size < b) (fun b hb _ => Nat.lt_of_lt_of_le hbl hb) (Nat.le_refl _) (fun _ _ _ _ h => h) _ _ (NdX.of _ _ hn))
  have hb3 : Below w2.heap.size w2 (w2.alloc (.cells #[.int .i64 k, .int .u64 (x0 : Int), .int .u64 (x1 : Int), .int .u64 (x2 : Int), .int .u64 (x3 : Int), .slice A m cap] 33)) := (Below.refl _ _).alloc (Nat.le_refl _) _
  have HC := hide (Blk.new w2 33 (ndL k [x0, x1, x2, x3] (.slice A m cap)))
  have HB2 := hide ((HB0.out.low hb2).low hb3)
  have HN2 := hide (HN.out.low hb3)
  clear hb2 hb3 hn hbl HN
  rw [show (ndL k [x0, x1, x2, x3] (.slice A m cap)).toArray = #[.int .i64 k, .int .u64 (x0 : Int), .int .u64 (x1 : Int), .int .u64 (x2 : Int), .int .u64 (x3 : Int), .slice A m cap] from rfl] at HC
  rcases hr with ⟨hx, rfl⟩ | ⟨j, hx, rfl, hj⟩
  · have HX := hide (show Y = none by rw [HE.out, hx])
    clear hx HE
    have c0 := HC.out.cell (i := 0) rfl
    have c1 := HC.out.cell (i := 1) rfl
    have c2 := HC.out.cell (i := 2) rfl
    have c3 := HC.out.cell (i := 3) rfl
    have c4 := HC.out.cell (i := 4) rfl
    have c5 := HC.out.cell (i := 5) rfl
    have b0 := HB2.out.b1.cell (i := 0) rfl
    have b1 := HB2.out.b1.cell (i := 1) rfl
    have b2 := HB2.out.b1.cell (i := 2) rfl
    have b3 := HB2.out.b1.cell (i := 3) rfl
    have b4 := HB2.out.b1.cell (i := 4) rfl
    have b5 := HB2.out.b1.cell (i := 5) rfl
    have bf := fun i => HB2.out.b1.frozen i
    go_wp2
    obtain ⟨g1, g2, g3⟩ := HB2.out.end HN2.out
    refine bodyPost_ret (results_nd rfl _ _ w.heap.size (ndL k [x0, x1, x2, x3] (.slice A m cap)) _ rfl rfl g1 rfl) rfl ?_
    exact ResI.no HX.out g2 g3
  · have hq := at_eq s j 41
    rw [hx] at HE
    dsimp only at HE
    rw [isB_rest, rest_tail] at HE
    have HAJ := hide (fun W => HAT.out j W)
    by_cases h41 : byI s j = some 41
    · rw [at_is h41] at HAJ
      have hjl := (by_lt h41).1
      rw [decide_eq_true h41, if_pos rfl] at HE
      clear hq h41 hx
      go_wp2_with fail
      refine (HAJ.out _).mono ?_; rintro e w3 ⟨rfl, rfl⟩
      have c0 := HC.out.cell (i := 0) rfl
      have c1 := HC.out.cell (i := 1) rfl
      have c2 := HC.out.cell (i := 2) rfl
      have c3 := HC.out.cell (i := 3) rfl
      have c4 := HC.out.cell (i := 4) rfl
      have c5 := HC.out.cell (i := 5) rfl
      have b0 := HB2.out.b1.cell (i := 0) rfl
      have b1 := HB2.out.b1.cell (i := 1) rfl
      have b2 := HB2.out.b1.cell (i := 2) rfl
      have b3 := HB2.out.b1.cell (i := 3) rfl
      have b4 := HB2.out.b1.cell (i := 4) rfl
      have b5 := HB2.out.b1.cell (i := 5) rfl
      have bf := fun i => HB2.out.b1.frozen i
      go_wp2
      obtain ⟨g1, g2, g3⟩ := HB2.out.end HN2.out
      refine bodyPost_ret (results_nd rfl _ _ w.heap.size (ndL k [x0, x1, x2, x3] (.slice A m cap)) _ rfl rfl g1 rfl) rfl ?_
      exact ResI.yes (j := j + 1) HE.out (by go_num) (by omega) g2 g3
    · rw [decide_eq_false h41, if_neg (by decide)] at HE
      rw [decide_eq_false h41] at hq
      have hq2 : (atI s j != 41) = true := by rw [bne, show (41 : Int) = ((41 : Nat) : Int) from rfl, hq]; rfl
      obtain ⟨c, hc⟩ : ∃ c, atI s j = c := ⟨_, rfl⟩
      rw [hc] at HAJ hq2
      clear hq h41 hx hc
      go_wp2_with fail
      refine (HAJ.out _).mono ?_; rintro e w3 ⟨rfl, rfl⟩
      have c0 := HC.out.cell (i := 0) rfl
      have c1 := HC.out.cell (i := 1) rfl
      have c2 := HC.out.cell (i := 2) rfl
      have c3 := HC.out.cell (i := 3) rfl
      have c4 := HC.out.cell (i := 4) rfl
      have c5 := HC.out.cell (i := 5) rfl
      have b0 := HB2.out.b1.cell (i := 0) rfl
      have b1 := HB2.out.b1.cell (i := 1) rfl
      have b2 := HB2.out.b1.cell (i := 2) rfl
      have b3 := HB2.out.b1.cell (i := 3) rfl
      have b4 := HB2.out.b1.cell (i := 4) rfl
      have b5 := HB2.out.b1.cell (i := 5) rfl
      have bf := fun i => HB2.out.b1.frozen i
      go_wp2
      obtain ⟨g1, g2, g3⟩ := HB2.out.end HN2.out
      refine bodyPost_ret (results_nd rfl _ _ w.heap.size (ndL k [x0, x1, x2, x3] (.slice A m cap)) _ rfl rfl g1 rfl) rfl ?_
      exact ResI.no HE.out g2 g3
theorem ratom_any (R : ByteArray → Option (Nd × ByteArray)) (s : ByteArray) (i : Nat) (w : World) (hs : s.size ≤ 90000) (hi : i ≤ s.size) (hR : i + 1 ≤ s.size → ∀ W, Calls Tryd.prog 28 #[.string s, .int .i64 ((i + 1 : Nat) : Int)] W (ResI s W (R (rest s (i + 1))))) :
    Calls Tryd.prog 42 #[.string s, .int .i64 (i : Int)] w (ResI s w (atomE R (rest s i))) := by
  by_cases h40 : byI s i = some 40
  · exact ratom_par R s i w hs h40 (hR (by_lt h40).1)
  by_cases h91 : byI s i = some 91
  · exact ratom_bra R s i w hs h91
  by_cases h46 : byI s i = some 46
  · exact ratom_dot R s i w hs h46
  exact ratom_let R s i w hs hi h40 h91 h46
end Go.Proofs.YtfamoikmfbpigaaDoor
namespace Go.Proofs.YtfamoikmfbpigaaDoor
open Go.RowKit

def finR (R : ByteArray → Option (Nd × ByteArray)) (g : Nat) (all : List Nd) (x : Option (List Nd × ByteArray)) : Option (Nd × ByteArray) :=
  match x with | none => none | some (l, t) => match rowsL R g (all ++ [joinedE 2 l]) t with | none => none | some (l', u) => some (joinedE 3 l', u)
theorem rowsL_fuel {R : ByteArray → Option (Nd × ByteArray)} (hRb : ∀ u n v, R u = some (n, v) → v.size ≤ u.size) : ∀ (g g' : Nat) (l : List Nd) (t : ByteArray), t.size < g → t.size < g' → rowsL R g l t = rowsL R g' l t
  | 0, _, _, _, h, _ => absurd h (by omega)
  | g + 1, 0, _, _, _, h => absurd h (by omega)
  | g + 1, g' + 1, l, t, h, h' => by
    unfold rowsL
    by_cases hb : isB t 124 = true
    · rw [if_pos hb, if_pos hb]
      have hpos : 0 < t.size := by
        unfold isB at hb
        split at hb
        · assumption
        · cases hb
      have hsz : (t.extract 1 t.size).size = t.size - 1 := by rw [ByteArray.size_extract]; omega
      cases hr : rowE R (t.extract 1 t.size) with
      | none => rfl
      | some p =>
        have := row_bd hRb hr
        exact rowsL_fuel hRb g g' _ _ (by omega) (by omega)
    · rw [if_neg hb, if_neg hb]
theorem fin_start {R : ByteArray → Option (Nd × ByteArray)} (hRb : ∀ u n v, R u = some (n, v) → v.size ≤ u.size) (s : ByteArray) : finR R (s.size + 1) [] (rowL R (s.size + 1) [] s) = rowsE1 R s := by
  have hb := fun n t (h : rowE R s = some (n, t)) => row_bd hRb h
  unfold rowsE1 finR
  unfold rowE at hb ⊢
  cases h : rowL R (s.size + 1) [] s with
  | none => rfl
  | some p =>
    obtain ⟨l, t⟩ := p
    rw [h] at hb
    have := hb _ _ rfl
    simp only [List.nil_append]
    rw [rowsL_fuel hRb (s.size + 1) (t.size + 1) [joinedE 2 l] t (by omega) (by omega)]
    rfl
theorem fin_bar (R : ByteArray → Option (Nd × ByteArray)) (g : Nat) (all row : List Nd) (s : ByteArray) (i : Nat) (h : byI s i = some 124) : finR R (g + 1) all (some (row, rest s i)) = finR R g (all ++ [joinedE 2 row]) (rowL R ((rest s (i + 1)).size + 1) [] (rest s (i + 1))) := by
  unfold finR
  simp only
  rw [rowsL, isB_rest, decide_eq_true h, if_pos rfl, rest_tail]
  unfold rowE
  cases rowL R ((rest s (i + 1)).size + 1) [] (rest s (i + 1)) with
  | none => rfl
  | some p => rfl
theorem fin_end (R : ByteArray → Option (Nd × ByteArray)) (g : Nat) (all row : List Nd) (s : ByteArray) (i : Nat) (h : byI s i ≠ some 124) : finR R (g + 1) all (some (row, rest s i)) = some (joinedE 3 (all ++ [joinedE 2 row]), rest s i) := by
  unfold finR
  simp only
  rw [rowsL, isB_rest, decide_eq_false h, if_neg (by decide)]
theorem row_end (R : ByteArray → Option (Nd × ByteArray)) (f : Nat) (row : List Nd) (s : ByteArray) (i : Nat) (h : byI s i = none ∨ byI s i = some 41 ∨ byI s i = some 124) : rowL R (f + 1) row (rest s i) = some (row, rest s i) := by
  rw [rowL, if_pos]
  rw [next_rest]
  rcases h with h | h | h
  · left; rw [rest_size]; have := (by_none h).1; omega
  · right; right; rw [h]; rfl
  · right; left; rw [h]; rfl
theorem row_more (R : ByteArray → Option (Nd × ByteArray)) (f : Nat) (row : List Nd) (s : ByteArray) (i b : Nat) (h : byI s i = some b) (h1 : b ≠ 41) (h2 : b ≠ 124) : rowL R (f + 1) row (rest s i) = (match pieceE R (rest s i) with | none => none | some (n, t) => rowL R f (row ++ [n]) t) := by
  rw [rowL, if_neg]
  · rfl
  · rw [next_rest, h]
    have := (by_lt h).1
    rintro (e | e | e)
    · rw [rest_size] at e; omega
    · exact h2 e
    · exact h1 e
theorem sgn_at (s : ByteArray) (i : Nat) : sgnI (atI s i) = sgn (nextB (rest s i)) := by
  rw [next_rest]
  cases h : byI s i with
  | none => rw [(by_none h).2]; rfl
  | some b =>
    rw [at_is h]
    show sgnI (b : Int) = sgn b
    unfold sgnI sgn
    by_cases e1 : b = 42
    · subst e1; rfl
    rw [if_neg (by omega), if_neg e1]
    by_cases e2 : b = 43
    · subst e2; rfl
    rw [if_neg (by omega), if_neg e2]
    by_cases e3 : b = 63
    · subst e3; rfl
    rw [if_neg (by omega), if_neg e3]
/-- What the outer round holds. -/
structure RwD (w Wf W : World) (all row : List Nd) (v6 v7 : Value) : Prop where
  b1 : Blk W w.heap.size 33 (ndL 0 noSet (.slice none 0 0))
  f6 : RowM Wf (w.heap.size + 1) v6 all
  fw : Below Wf.heap.size Wf W
  r7 : RowM W Wf.heap.size v7 row
  below : Below w.heap.size w W
  wf : w.heap.size < Wf.heap.size
theorem RwD.low {w Wf W V : World} {all row : List Nd} {v6 v7 : Value} (h : RwD w Wf W all row v6 v7) (hb : Below W.heap.size W V) : RwD w Wf V all row v6 v7 :=
  ⟨h.b1.below hb, h.f6, h.fw.trans (hb.mono h.fw.size), h.r7.below hb, h.below.trans (hb.mono h.below.size), h.wf⟩
theorem RwD.r6 {w Wf W : World} {all row : List Nd} {v6 v7 : Value} (h : RwD w Wf W all row v6 v7) : RowM W (w.heap.size + 1) v6 all := h.f6.below h.fw
theorem rw_new (w : World) : RwD w (w.alloc (.cells #[.int .i64 0, .int .u64 0, .int .u64 0, .int .u64 0, .int .u64 0, .slice none 0 0] 33)) (w.alloc (.cells #[.int .i64 0, .int .u64 0, .int .u64 0, .int .u64 0, .int .u64 0, .slice none 0 0] 33)) [] [] (.slice none 0 0) (.slice none 0 0) :=
  ⟨Blk.new _ _ _, RowM.nil _ _, Below.refl _ _, RowM.nil _ _, (Below.refl _ _).alloc (Nat.le_refl _) _, by simp⟩
theorem RwD.app6 {w Wf W V : World} {all row : List Nd} {v6 v7 v' : Value} {n : Nd} {cs : List Value} {Cs : List (List Value)} (h : RwD w Wf W all row v6 v7) (h1 : Cs.length = all.length) (h2 : ∀ cs ∈ Cs, cs.length = 6) (h3 : W.ownsRow (w.heap.size + 1) 33 6 v6 all.length Cs.flatten)
    (h4 : ∀ (j : Nat) (x : Nd), all[j]? = some x → ∃ cs, Cs[j]? = some cs ∧ NdX (fun b => w.heap.size + 1 ≤ b ∧ some b ≠ v6.ownBlock) W x cs) (hx : NdX (fun b => Wf.heap.size ≤ b) W n cs) (hown : V.ownsRow (w.heap.size + 1) 33 6 v' (all.length + 1) (Cs.flatten ++ cs)) (hg : W.grownBy V v6.ownBlock) (hat : v'.ownBlock = v6.ownBlock ∨ v'.ownBlock = some W.heap.size) :
    RwD w V V (all ++ [n]) [] v' (.slice none 0 0) := by
  have hw := h.wf
  have hfs := h.fw.size
  have hx' : NdX (fun b => w.heap.size + 1 ≤ b ∧ some b ≠ v6.ownBlock) W n cs := NdX.keep (fun b hb _ => ⟨by omega, fun e => by have := (h.f6.own b e.symm).2; omega⟩) (Nat.le_refl _) (fun _ _ _ _ h => h) _ _ hx
  have hbl : Below (w.heap.size + 1) W V := (Below.refl _ _).grown hg (by omega) (fun k e => (World.ownsRow.lt h3 k e).1)
  exact ⟨h.b1.under hbl (by omega), RowM.app h1 h2 h4 hx' hown hg hat, Below.refl _ _, RowM.nil _ _, h.below.trans (hbl.mono (by omega)), by have := hg.size; omega⟩
theorem RwD.app7 {w Wf W V : World} {all row : List Nd} {v6 v7 v' : Value} {n : Nd} {cs : List Value} {Cs : List (List Value)} (h : RwD w Wf W all row v6 v7) (h1 : Cs.length = row.length) (h2 : ∀ cs ∈ Cs, cs.length = 6) (h3 : W.ownsRow Wf.heap.size 33 6 v7 row.length Cs.flatten)
    (h4 : ∀ (j : Nat) (x : Nd), row[j]? = some x → ∃ cs, Cs[j]? = some cs ∧ NdX (fun b => Wf.heap.size ≤ b ∧ some b ≠ v7.ownBlock) W x cs) (hx : NdX (fun b => Wf.heap.size ≤ b ∧ some b ≠ v7.ownBlock) W n cs) (hown : V.ownsRow Wf.heap.size 33 6 v' (row.length + 1) (Cs.flatten ++ cs)) (hg : W.grownBy V v7.ownBlock) (hat : v'.ownBlock = v7.ownBlock ∨ v'.ownBlock = some W.heap.size) :
    RwD w Wf V all (row ++ [n]) v6 v' := by
  have hw := h.wf
  have hbl : Below Wf.heap.size W V := (Below.refl _ _).grown hg h.fw.size (fun k e => (World.ownsRow.lt h3 k e).1)
  exact ⟨h.b1.under hbl hw, h.f6, h.fw.trans hbl, RowM.app h1 h2 h4 hx hown hg hat, h.below.trans (hbl.mono (by omega)), hw⟩
/-- What the signs' round holds: z: the box of the node. -/
structure SgD (w W : World) (z : Nat) (n : Nd) (cs : List Value) : Prop where
  b9 : Blk W z 33 cs
  nd : NdX (fun b => w.heap.size ≤ b ∧ b ≠ z) W n cs
  below : Below w.heap.size w W
  hz : w.heap.size ≤ z
theorem SgD.low {w W V : World} {z : Nat} {n : Nd} {cs : List Value} (h : SgD w W z n cs) (hb : Below W.heap.size W V) : SgD w V z n cs :=
  ⟨h.b9.below hb, h.nd.low hb, h.below.trans (hb.mono h.below.size), h.hz⟩
theorem sg_new {w W : World} {n : Nd} {cs : List Value} (hb : Below w.heap.size w W) (hn : NdAt w.heap.size W n cs) : SgD w (W.alloc (.cells cs.toArray 33)) W.heap.size n cs :=
  have hbl : Below W.heap.size W (W.alloc (.cells cs.toArray 33)) := (Below.refl _ _).alloc (Nat.le_refl _) _
  ⟨Blk.new _ _ _, (NdX.keep (fun b hb2 hlt => ⟨hb2, by omega⟩) (Nat.le_refl _) (fun _ _ _ _ h => h) _ _ (NdX.of _ _ hn)).low hbl, hb.trans (hbl.mono hb.size), hb.size⟩
theorem nd_putC {T : TypeId} {W : World} {z : Nat} {k0 : Int} {a0 b0 c0 d0 : Nat} {v0 : Value} (h : Blk W z T (ndL k0 [a0, b0, c0, d0] v0)) (k : Int) (v : Value) : Blk ((((((W.setCell ⟨z, 0, none⟩ (.int .i64 k)).setCell ⟨z, 1, none⟩ (.int .u64 0)).setCell ⟨z, 2, none⟩ (.int .u64 0)).setCell ⟨z, 3, none⟩ (.int .u64 0)).setCell ⟨z, 4, none⟩ (.int .u64 0)).setCell ⟨z, 5, none⟩ v) z T (ndL k noSet v) :=
  (((((h.set 0 _).set 1 _).set 2 _).set 3 _).set 4 _).set 5 _
theorem SgD.wrap {w W : World} {z zb : Nat} {n : Nd} {k : Int} {x0 x1 x2 x3 : Nat} {v : Value} (h : SgD w W z n (ndL k [x0, x1, x2, x3] v)) (hb : Blk W zb 33 (ndL k [x0, x1, x2, x3] v)) (hz : w.heap.size ≤ zb) (h3 : zb ≠ z) (j : Int) :
    SgD w ((((((W.setCell ⟨z, 0, none⟩ (.int .i64 j)).setCell ⟨z, 1, none⟩ (.int .u64 0)).setCell ⟨z, 2, none⟩ (.int .u64 0)).setCell ⟨z, 3, none⟩ (.int .u64 0)).setCell ⟨z, 4, none⟩ (.int .u64 0)).setCell ⟨z, 5, none⟩ (.slice (some ⟨zb, 0, none⟩) 1 1)) z (.mk j noSet [n]) (ndL j [0, 0, 0, 0] (.slice (some ⟨zb, 0, none⟩) 1 1)) := by
  have hk := nd_keepB W z j (.slice (some ⟨zb, 0, none⟩) 1 1)
  have hb' := hk.blk hb h3
  refine ⟨nd_putC h.b9 j _, ?_, BelowKeep h.below hk h.hz, h.hz⟩
  unfold NdX
  refine ⟨some ⟨zb, 0, none⟩, 1, rfl, noSet_w, Nat.le_refl _, by unfold maxLen; omega, NdsX.mk ⟨⟨hz, h3⟩, hb'.lt⟩ _ 0 (fun i x hx => ?_)⟩
  match i, hx with
  | 0, hx =>
    simp at hx; subst hx
    refine ⟨_, h.nd.len, fun q u hu => ?_, h.nd.keepR (fun b hb => hb.2) hk⟩
    have := hb'.cell (i := q) hu
    rw [show 0 + (0 + 0) * 6 + q = q by omega]; exact this
  | i + 1, hx => simp at hx
theorem SgD.c6 {w W : World} {z : Nat} {n : Nd} {k : Int} {x0 x1 x2 x3 : Nat} {v : Value} (h : SgD w W z n (ndL k [x0, x1, x2, x3] v)) : W.cell? ⟨z, 0, none⟩ = some (.int .i64 k) ∧ W.cell? ⟨z, 1, none⟩ = some (.int .u64 (x0 : Int)) ∧ W.cell? ⟨z, 2, none⟩ = some (.int .u64 (x1 : Int)) ∧ W.cell? ⟨z, 3, none⟩ = some (.int .u64 (x2 : Int)) ∧ W.cell? ⟨z, 4, none⟩ = some (.int .u64 (x3 : Int)) ∧ W.cell? ⟨z, 5, none⟩ = some v :=
  ⟨h.b9.cell (i := 0) rfl, h.b9.cell (i := 1) rfl, h.b9.cell (i := 2) rfl, h.b9.cell (i := 3) rfl, h.b9.cell (i := 4) rfl, h.b9.cell (i := 5) rfl⟩
end Go.Proofs.YtfamoikmfbpigaaDoor
namespace Go.Proofs.YtfamoikmfbpigaaDoor
open Go.RowKit

set_option maxHeartbeats 8000000 in
set_option maxRecDepth 100000 in
theorem rrows_step (R : ByteArray → Option (Nd × ByteArray)) (s : ByteArray) (i0 : Nat) (w : World) (hs : s.size ≤ 90000) (hi0 : i0 ≤ s.size) (hRb : ∀ u n v, R u = some (n, v) → v.size ≤ u.size)
    (hR : ∀ j W, i0 < j → j ≤ s.size → Calls Tryd.prog 28 #[.string s, .int .i64 (j : Int)] W (ResI s W (R (rest s j)))) :
    Calls Tryd.prog 28 #[.string s, .int .i64 (i0 : Int)] w (ResI s w (rowsE1 R (rest s i0))) := by
  have HST0 := hide (fin_start hRb (rest s i0))
  obtain ⟨X, hX⟩ : ∃ X, rowsE1 R (rest s i0) = X := ⟨_, rfl⟩
  rw [hX] at HST0 ⊢
  clear hX
  have HAB := hide (fun i n t (h : atomE R (rest s i) = some (n, t)) => atom_bd hRb h)
  have HATM := hide (fun (i : Nat) (W : World) (h0 : i0 ≤ i) (hi : i ≤ s.size) => ratom_any R s i W hs hi (fun h1 W => hR (i + 1) W (by omega) h1))
  have HAT := hide (fun (i : Nat) (W : World) => rat_any s i W (by omega))
  have HSGN := hide (fun (x : Int) (W : World) => rsign_any x W)
  have HB0 := hide (rw_new w)
  obtain ⟨i0i, hinf, hz0, hz1, hz2⟩ := infoM_parts
  clear hR hRb
  go_enter Tryd.func28, Tryd.ntmps28
  go_wp2_with fail
  obtain ⟨W0, hW0⟩ : ∃ W, w.alloc (.cells #[.int .i64 0, .int .u64 0, .int .u64 0, .int .u64 0, .int .u64 0, .slice none 0 0] 33) = W := ⟨_, rfl⟩
  rw [hW0] at HB0 ⊢
  clear hW0
  go_loopw [1, 6, 7] (fun iv v6 v7 wr => ∃ (i f g : Nat) (all row : List Nd) (Wf : World), iv = .int .i64 (i : Int) ∧ i0 ≤ i ∧ i ≤ s.size ∧ (rest s i).size < f ∧ s.size - i < g ∧ all.length + row.length ≤ i ∧ Hid (finR R g all (rowL R f row (rest s i)) = X) ∧ Hid (RwD w Wf wr all row v6 v7)) (fun iv _ _ _ => s.size + 1 - (intOf iv).toNat)
  case atStart => exact ⟨i0, (rest s i0).size + 1, (rest s i0).size + 1, [], [], W0, rfl, Nat.le_refl _, hi0, by omega, by rw [rest_size]; omega, by simp, HST0, HB0⟩
  case round =>
    clear HB0 HST0
    obtain ⟨i, f, g, all, row, Wf, rfl, hi0i, hi, hf, hg, hln, HXE, HB⟩ := hrel
    obtain ⟨f, rfl⟩ : ∃ q, f = q + 1 := ⟨f - 1, by omega⟩
    obtain ⟨g, rfl⟩ : ∃ q, g = q + 1 := ⟨g - 1, by omega⟩
    rw [rest_size] at hf
    have HAI := hide (fun W => HAT.out i W)
    by_cases hend : byI s i = none ∨ byI s i = some 41 ∨ byI s i = some 124
    · have HXR := hide (show finR R (g + 1) all (some (row, rest s i)) = X by rw [← HXE.out, row_end R f row s i hend])
      clear HXE
      cases hb : byI s i with
      | none =>
        rw [(by_none hb).2] at HAI
        have HNX := hide (show X = some (joinedE 3 (all ++ [joinedE 2 row]), rest s i) by rw [← HXR.out]; exact fin_end R g all row s i (by rw [hb]; simp))
        clear hend hb HXR
        go_wp2_with fail
        refine (HAI.out _).mono ?_; rintro e w2 ⟨rfl, rfl⟩
        obtain ⟨A7, c7, rfl, hlc, hcap, hkids⟩ := HB.out.r7.kids
        have HJ := hide (rjoin_any Wf.heap.size 2 A7 row.length c7 row wr rfl hlc hcap (by omega) hkids)
        clear hlc hcap hkids
        go_wp2_with fail
        refine HJ.out.mono ?_; rintro e w3 ⟨cs, he3, hn3, hb3⟩
        have hx3 := NdX.of _ _ hn3
        obtain ⟨k, x0, x1, x2, x3, A9, m9, c9, rfl, -, -⟩ := hx3.form
        have he3 : e = .returned (.agg #[.int .i64 k, .int .u64 (x0 : Int), .int .u64 (x1 : Int), .int .u64 (x2 : Int), .int .u64 (x3 : Int), .slice A9 m9 c9]) := he3
        subst he3
        have hbl : Below w3.heap.size w3 (w3.alloc (.cells (ndL k [x0, x1, x2, x3] (.slice A9 m9 c9)).toArray 33)) := (Below.refl _ _).alloc (Nat.le_refl _) _
        have HBa := hide ((HB.out.low hb3).low hbl)
        have HNa := hide (hx3.low hbl)
        obtain ⟨Cs, hc1, hc2, hc3, hc4⟩ := HBa.out.r6
        have HC4 := hide hc4
        have hzz := HBa.out.b1.lt
        clear hbl hc4 hn3 hx3 hb3 HJ
        go_wp2_with (at_builtin; refine wpList_append_own_at _ rfl _ _ 31 rfl (w.heap.size + 1) 33 i0i _ 6 64 Tryd.underlying31 hinf hz0 hz1 hz2 (by rfl) (by decide) u6 all.length Cs.flatten rfl hc3 ⟨w3.heap.size, 0, none⟩ 1 1 (ndL k [x0, x1, x2, x3] (.slice A9 m9 c9)) rfl rfl (new_atM w3 (ndL k [x0, x1, x2, x3] (.slice A9 m9 c9))) (NdX.one HNa.out) (by unfold maxLen; omega) (by omega) hzz ?_; intro v' w5 hown1 hgrow1 _ hat1)
        have HB5 := hide (HBa.out.app6 hc1 hc2 hc3 HC4.out HNa.out hown1 hgrow1 hat1)
        clear hown1 hgrow1 hat1 HC4 hc1 hc2 hc3 HBa HNa HB
        obtain ⟨A6, c6, rfl, hlc, hcap, hkids⟩ := HB5.out.r6.kids
        rw [List.length_append] at hlc ⊢
        have HJ3 := hide (rjoin_any (w.heap.size + 1) 3 A6 (all.length + 1) c6 (all ++ [joinedE 2 row]) w5 (by rw [List.length_append]; rfl) hlc hcap (by omega) hkids)
        clear hlc hcap hkids
        go_wp2_with fail
        refine HJ3.out.mono ?_; rintro e w6 ⟨cs, he6, hn6, hb6⟩
        have hx6 := NdX.of _ _ hn6
        obtain ⟨k', y0, y1, y2, y3, A5, m5, c5, rfl, -, -⟩ := hx6.form
        have he6 : e = .returned (.agg #[.int .i64 k', .int .u64 (y0 : Int), .int .u64 (y1 : Int), .int .u64 (y2 : Int), .int .u64 (y3 : Int), .slice A5 m5 c5]) := he6
        subst he6
        have HB6 := hide (HB5.out.low hb6)
        have HA6 := hide (show AtB w w6 from ⟨HB6.out.b1, HB6.out.below⟩)
        have HX6 := hide (NdX.keep (Q := fun b => w.heap.size < b) (fun b hb _ => hb) (Nat.le_refl _) (fun _ _ _ _ h => h) _ _ hx6)
        clear hn6 hx6 hb6 HJ3 HB5
        have b0 := HA6.out.b1.cell (i := 0) rfl
        have b1 := HA6.out.b1.cell (i := 1) rfl
        have b2 := HA6.out.b1.cell (i := 2) rfl
        have b3 := HA6.out.b1.cell (i := 3) rfl
        have b4 := HA6.out.b1.cell (i := 4) rfl
        have b5 := HA6.out.b1.cell (i := 5) rfl
        have bf := fun i => HA6.out.b1.frozen i
        go_wp2
        obtain ⟨g1, g2, g3⟩ := HA6.out.end HX6.out
        refine bodyPost_ret (results_nd rfl _ _ w.heap.size (ndL k' [y0, y1, y2, y3] (.slice A5 m5 c5)) _ rfl rfl g1 rfl) rfl ?_
        exact ResI.yes (j := i) HNX.out rfl hi g2 g3
      | some b =>
        have hil := (by_lt hb).1
        rw [at_is hb] at HAI
        rw [hb] at hend
        by_cases h41 : b = 41
        · subst h41
          have HNX := hide (show X = some (joinedE 3 (all ++ [joinedE 2 row]), rest s i) by rw [← HXR.out]; exact fin_end R g all row s i (by rw [hb]; simp))
          clear hend hb HXR
          go_wp2_with fail
          refine (HAI.out _).mono ?_; rintro e w2 ⟨rfl, rfl⟩
          obtain ⟨A7, c7, rfl, hlc, hcap, hkids⟩ := HB.out.r7.kids
          have HJ := hide (rjoin_any Wf.heap.size 2 A7 row.length c7 row wr rfl hlc hcap (by omega) hkids)
          clear hlc hcap hkids
          go_wp2_with fail
          refine HJ.out.mono ?_; rintro e w3 ⟨cs, he3, hn3, hb3⟩
          have hx3 := NdX.of _ _ hn3
          obtain ⟨k, x0, x1, x2, x3, A9, m9, c9, rfl, -, -⟩ := hx3.form
          have he3 : e = .returned (.agg #[.int .i64 k, .int .u64 (x0 : Int), .int .u64 (x1 : Int), .int .u64 (x2 : Int), .int .u64 (x3 : Int), .slice A9 m9 c9]) := he3
          subst he3
          have hbl : Below w3.heap.size w3 (w3.alloc (.cells (ndL k [x0, x1, x2, x3] (.slice A9 m9 c9)).toArray 33)) := (Below.refl _ _).alloc (Nat.le_refl _) _
          have HBa := hide ((HB.out.low hb3).low hbl)
          have HNa := hide (hx3.low hbl)
          obtain ⟨Cs, hc1, hc2, hc3, hc4⟩ := HBa.out.r6
          have HC4 := hide hc4
          have hzz := HBa.out.b1.lt
          clear hbl hc4 hn3 hx3 hb3 HJ
          go_wp2_with (at_builtin; refine wpList_append_own_at _ rfl _ _ 31 rfl (w.heap.size + 1) 33 i0i _ 6 64 Tryd.underlying31 hinf hz0 hz1 hz2 (by rfl) (by decide) u6 all.length Cs.flatten rfl hc3 ⟨w3.heap.size, 0, none⟩ 1 1 (ndL k [x0, x1, x2, x3] (.slice A9 m9 c9)) rfl rfl (new_atM w3 (ndL k [x0, x1, x2, x3] (.slice A9 m9 c9))) (NdX.one HNa.out) (by unfold maxLen; omega) (by omega) hzz ?_; intro v' w5 hown1 hgrow1 _ hat1)
          have HB5 := hide (HBa.out.app6 hc1 hc2 hc3 HC4.out HNa.out hown1 hgrow1 hat1)
          clear hown1 hgrow1 hat1 HC4 hc1 hc2 hc3 HBa HNa HB
          obtain ⟨A6, c6, rfl, hlc, hcap, hkids⟩ := HB5.out.r6.kids
          rw [List.length_append] at hlc ⊢
          have HJ3 := hide (rjoin_any (w.heap.size + 1) 3 A6 (all.length + 1) c6 (all ++ [joinedE 2 row]) w5 (by rw [List.length_append]; rfl) hlc hcap (by omega) hkids)
          clear hlc hcap hkids
          go_wp2_with fail
          refine HJ3.out.mono ?_; rintro e w6 ⟨cs, he6, hn6, hb6⟩
          have hx6 := NdX.of _ _ hn6
          obtain ⟨k', y0, y1, y2, y3, A5, m5, c5, rfl, -, -⟩ := hx6.form
          have he6 : e = .returned (.agg #[.int .i64 k', .int .u64 (y0 : Int), .int .u64 (y1 : Int), .int .u64 (y2 : Int), .int .u64 (y3 : Int), .slice A5 m5 c5]) := he6
          subst he6
          have HB6 := hide (HB5.out.low hb6)
          have HA6 := hide (show AtB w w6 from ⟨HB6.out.b1, HB6.out.below⟩)
          have HX6 := hide (NdX.keep (Q := fun b => w.heap.size < b) (fun b hb _ => hb) (Nat.le_refl _) (fun _ _ _ _ h => h) _ _ hx6)
          clear hn6 hx6 hb6 HJ3 HB5
          have b0 := HA6.out.b1.cell (i := 0) rfl
          have b1 := HA6.out.b1.cell (i := 1) rfl
          have b2 := HA6.out.b1.cell (i := 2) rfl
          have b3 := HA6.out.b1.cell (i := 3) rfl
          have b4 := HA6.out.b1.cell (i := 4) rfl
          have b5 := HA6.out.b1.cell (i := 5) rfl
          have bf := fun i => HA6.out.b1.frozen i
          go_wp2
          obtain ⟨g1, g2, g3⟩ := HA6.out.end HX6.out
          refine bodyPost_ret (results_nd rfl _ _ w.heap.size (ndL k' [y0, y1, y2, y3] (.slice A5 m5 c5)) _ rfl rfl g1 rfl) rfl ?_
          exact ResI.yes (j := i) HNX.out rfl hi g2 g3
        · have h124 : b = 124 := by rcases hend with h | h | h <;> simp_all
          subst h124
          have HNX := hide (show finR R g (all ++ [joinedE 2 row]) (rowL R ((rest s (i + 1)).size + 1) [] (rest s (i + 1))) = X by rw [← fin_bar R g all row s i hb]; exact HXR.out)
          clear hend hb HXR h41
          go_wp2_with fail
          refine (HAI.out _).mono ?_; rintro e w2 ⟨rfl, rfl⟩
          obtain ⟨A7, c7, rfl, hlc, hcap, hkids⟩ := HB.out.r7.kids
          have HJ := hide (rjoin_any Wf.heap.size 2 A7 row.length c7 row wr rfl hlc hcap (by omega) hkids)
          clear hlc hcap hkids
          go_wp2_with fail
          refine HJ.out.mono ?_; rintro e w3 ⟨cs, he3, hn3, hb3⟩
          have hx3 := NdX.of _ _ hn3
          obtain ⟨k, x0, x1, x2, x3, A9, m9, c9, rfl, -, -⟩ := hx3.form
          have he3 : e = .returned (.agg #[.int .i64 k, .int .u64 (x0 : Int), .int .u64 (x1 : Int), .int .u64 (x2 : Int), .int .u64 (x3 : Int), .slice A9 m9 c9]) := he3
          subst he3
          have hbl : Below w3.heap.size w3 (w3.alloc (.cells (ndL k [x0, x1, x2, x3] (.slice A9 m9 c9)).toArray 33)) := (Below.refl _ _).alloc (Nat.le_refl _) _
          have HBa := hide ((HB.out.low hb3).low hbl)
          have HNa := hide (hx3.low hbl)
          obtain ⟨Cs, hc1, hc2, hc3, hc4⟩ := HBa.out.r6
          have HC4 := hide hc4
          have hzz := HBa.out.b1.lt
          clear hbl hc4 hn3 hx3 hb3 HJ
          go_wp2_with (at_builtin; refine wpList_append_own_at _ rfl _ _ 31 rfl (w.heap.size + 1) 33 i0i _ 6 64 Tryd.underlying31 hinf hz0 hz1 hz2 (by rfl) (by decide) u6 all.length Cs.flatten rfl hc3 ⟨w3.heap.size, 0, none⟩ 1 1 (ndL k [x0, x1, x2, x3] (.slice A9 m9 c9)) rfl rfl (new_atM w3 (ndL k [x0, x1, x2, x3] (.slice A9 m9 c9))) (NdX.one HNa.out) (by unfold maxLen; omega) (by omega) hzz ?_; intro v' w5 hown1 hgrow1 _ hat1)
          have HB5 := hide (HBa.out.app6 hc1 hc2 hc3 HC4.out HNa.out hown1 hgrow1 hat1)
          clear hown1 hgrow1 hat1 HC4 hc1 hc2 hc3 HBa HNa HB
          go_wp2
          go_roundw
          case rel => exact ⟨i + 1, (rest s (i + 1)).size + 1, g, all ++ [joinedE 2 row], [], w5, by go_num, by omega, by omega, by rw [rest_size]; omega, by omega, by rw [List.length_append]; simp; omega, HNX, HB5⟩
          case measure => simp [intOf]; omega
    · cases hb : byI s i with
      | none => exact absurd (.inl hb) hend
      | some b =>
        have hil := (by_lt hb).1
        have h41 : b ≠ 41 := fun e => hend (.inr (.inl (by rw [hb, e])))
        have h124 : b ≠ 124 := fun e => hend (.inr (.inr (by rw [hb, e])))
        rw [row_more R f row s i b hb h41 h124] at HXE
        have HXM := HXE
        rw [at_is hb] at HAI
        have q0 : ¬ (b : Int) < 0 := by omega
        have q1 : ((b : Int) == 41) = false := by rw [beq_eq_false_iff_ne]; omega
        have q2 : ((b : Int) == 124) = false := by rw [beq_eq_false_iff_ne]; omega
        clear hend hb h41 h124 HXE
        go_wp2_with fail
        refine (HAI.out _).mono ?_; rintro e w2 ⟨rfl, rfl⟩
        go_wp2_with fail
        refine (HATM.out i _ hi0i hi).mono ?_; rintro e w2 hr
        obtain ⟨hb2, n, k, x0, x1, x2, x3, A9, m9, c9, hn, hr⟩ := hr.cases
        obtain ⟨wo, hwo⟩ : ∃ W, wr = W := ⟨_, rfl⟩
        rw [hwo] at hb2 hn HB
        have HS := hide (sg_new hb2 hn)
        have hbl : Below w2.heap.size w2 (w2.alloc (.cells (ndL k [x0, x1, x2, x3] (.slice A9 m9 c9)).toArray 33)) := (Below.refl _ _).alloc (Nat.le_refl _) _
        rw [show ((ndL k [x0, x1, x2, x3] (.slice A9 m9 c9))).toArray = #[.int .i64 k, .int .u64 (x0 : Int), .int .u64 (x1 : Int), .int .u64 (x2 : Int), .int .u64 (x3 : Int), .slice A9 m9 c9] from rfl] at HS hbl
        rcases hr with ⟨hx, rfl⟩ | ⟨j, hx, rfl, hj⟩
        · have HNX := hide (show X = none by have h := HXM.out; unfold pieceE at h; rw [hx] at h; exact h.symm)
          have HBn := hide ((HB.out.low hb2).low hbl)
          have HA6 := hide (show AtB w _ from ⟨HBn.out.b1, HBn.out.below⟩)
          have HX6 := hide (NdX.keep (Q := fun b => w.heap.size < b) (fun b hb _ => by have h1 := HB.out.wf; have h2 := HB.out.fw.size; omega) (Nat.le_refl _) (fun _ _ _ _ h => h) _ _ HS.out.nd)
          clear hx HXM hb2 hbl hn HB HBn
          have c0 := HS.out.b9.cell (i := 0) rfl
          have c1 := HS.out.b9.cell (i := 1) rfl
          have c2 := HS.out.b9.cell (i := 2) rfl
          have c3 := HS.out.b9.cell (i := 3) rfl
          have c4 := HS.out.b9.cell (i := 4) rfl
          have c5 := HS.out.b9.cell (i := 5) rfl
          have b0 := HA6.out.b1.cell (i := 0) rfl
          have b1 := HA6.out.b1.cell (i := 1) rfl
          have b2 := HA6.out.b1.cell (i := 2) rfl
          have b3 := HA6.out.b1.cell (i := 3) rfl
          have b4 := HA6.out.b1.cell (i := 4) rfl
          have b5 := HA6.out.b1.cell (i := 5) rfl
          have bf := fun i => HA6.out.b1.frozen i
          go_wp2
          obtain ⟨g1, g2, g3⟩ := HA6.out.end HX6.out
          refine bodyPost_ret (results_nd rfl _ _ w.heap.size (ndL k [x0, x1, x2, x3] (.slice A9 m9 c9)) _ rfl rfl g1 rfl) rfl ?_
          exact ResI.no HNX.out g2 g3
        · have hjb := HAB.out i n _ hx
          rw [rest_size, rest_size] at hjb
          have HPX := hide (show finR R (g + 1) all (rowL R f (row ++ [(signsE (rest s j).size n (rest s j)).1]) (signsE (rest s j).size n (rest s j)).2) = X by have h := HXM.out; unfold pieceE at h; rw [hx] at h; exact h)
          have hwz := hb2.size
          clear hx HXM hbl hn hb2
          go_wp2_with fail
          obtain ⟨z, hze⟩ : ∃ q, w2.heap.size = q := ⟨_, rfl⟩
          obtain ⟨w3, hw3⟩ : ∃ W, w2.alloc (.cells #[.int .i64 k, .int .u64 (x0 : Int), .int .u64 (x1 : Int), .int .u64 (x2 : Int), .int .u64 (x3 : Int), .slice A9 m9 c9] 33) = W := ⟨_, rfl⟩
          rw [hw3, hze] at HS
          rw [hw3, hze]
          rw [hze] at hwz
          clear hw3 hze hwo
          obtain ⟨X2, hX2⟩ : ∃ X, signsE (rest s j).size n (rest s j) = X := ⟨_, rfl⟩
          rw [hX2] at HPX
          have HX2 := hide hX2
          clear hX2
          go_loopw [10] (fun kv wr => ∃ (k0 : Nat) (n : Nd) (f0 : Nat) (k : Int) (x0 x1 x2 x3 : Nat) (A9 : Option Addr) (m9 c9 : Nat), kv = .int .i64 (k0 : Int) ∧ i < k0 ∧ k0 ≤ s.size ∧ (rest s k0).size ≤ f0 ∧ Hid (signsE f0 n (rest s k0) = X2) ∧ Hid (SgD wo wr z n (ndL k [x0, x1, x2, x3] (.slice A9 m9 c9)))) (fun kv _ => s.size - (intOf kv).toNat)
          case atStart => exact ⟨j, n, (rest s j).size, k, x0, x1, x2, x3, A9, m9, c9, rfl, by omega, hj, Nat.le_refl _, HX2, HS⟩
          case round =>
            clear HS HX2
            obtain ⟨k0, n, f0, k, x0, x1, x2, x3, A9, m9, c9, rfl, hik, hks, hf0, HXE, HS⟩ := hrel
            rw [rest_size] at hf0
            obtain ⟨gg, hgg⟩ : ∃ q, sgn (nextB (rest s k0)) = q := ⟨_, rfl⟩
            have hsg := sgn_at s k0
            rw [hgg] at hsg
            obtain ⟨ak, hak⟩ : ∃ a, atI s k0 = a := ⟨_, rfl⟩
            have HAK := hide (fun W => HAT.out k0 W)
            have HSG := hide (fun W => HSGN.out ak W)
            rw [hak] at hsg HAK
            rw [hsg] at HSG
            clear hak hsg
            by_cases hgo : 0 < gg
            · have hg0 : (0 : Int) < (gg : Int) := by omega
              have hkl : k0 < s.size := by
                rcases Nat.lt_or_ge k0 s.size with h | h
                · exact h
                · rw [next_rest, show byI s k0 = none by unfold byI; rw [dif_neg (by omega)]] at hgg
                  have : gg = 0 := by rw [← hgg]; rfl
                  omega
              have HXM := hide (show signsE (f0 - 1) (.mk (gg : Int) noSet [n]) (rest s (k0 + 1)) = X2 by rw [← HXE.out, signsE_more n (rest s k0) f0 (by rw [rest_size]; omega) (by rw [hgg]; exact hgo), hgg, rest_tail])
              clear HXE hgg
              go_wp2_with fail
              refine (HAK.out _).mono ?_; rintro e w4 ⟨rfl, rfl⟩
              go_wp2_with fail
              refine (HSG.out _).mono ?_; rintro e w4 ⟨rfl, rfl⟩
              go_wp2_with fail
              have HBd := hide (HS.out.low ((Below.refl _ _).drew))
              obtain ⟨wd, hwd⟩ : ∃ W, wr.drew = W := ⟨_, rfl⟩
              rw [hwd] at HBd
              have HN5 := hide (show Blk (wd.alloc (.cells (ndL k [x0, x1, x2, x3] (.slice A9 m9 c9)).toArray 33)) wd.heap.size 33 (ndL k [x0, x1, x2, x3] (.slice A9 m9 c9)) from Blk.new _ _ _)
              have HB5 := hide (HBd.out.low ((Below.refl _ _).alloc (Nat.le_refl _) (.cells (ndL k [x0, x1, x2, x3] (.slice A9 m9 c9)).toArray 33)))
              refine wp_region_held_drew (S := fun _ => True) (by kernel_rfl) ?_ (fun hHeld => ?_)
              · exact trivial
              rw [show wr.drew = wd from hwd]
              refine wpAnyH_at (i := 0) (v := ?vr1_0) (d := 50) rfl rfl (by kernel_rfl) (by kernel_rfl) (by kernel_rfl) (fun _ _ _ h => h) (Or.inl ⟨by rfl, fun w' hSw => ?hyr1_0⟩) (by assumption) ?restr1_0
              case hyr1_0 =>
                (try dsimp only at hSw)
                go_simp
                (try with_reducible rfl)
              (try simp only [Act.put, List.setIfInBounds_toArray, List.set_cons_zero, List.set_cons_succ])
              refine wpAnyH_at (i := 1) (v := ?vr2_1) (d := 51) rfl rfl (by kernel_rfl) (by kernel_rfl) (by kernel_rfl) (fun _ _ _ h => h) (Or.inl ⟨by rfl, fun w' hSw => ?hyr2_1⟩) (by assumption) ?restr2_1
              case hyr2_1 =>
                (try dsimp only at hSw)
                go_simp
                (try with_reducible rfl)
              (try simp only [Act.put, List.setIfInBounds_toArray, List.set_cons_zero, List.set_cons_succ])
              have c0 := HBd.out.b9.cell (i := 0) rfl
              have c1 := HBd.out.b9.cell (i := 1) rfl
              have c2 := HBd.out.b9.cell (i := 2) rfl
              have c3 := HBd.out.b9.cell (i := 3) rfl
              have c4 := HBd.out.b9.cell (i := 4) rfl
              have c5 := HBd.out.b9.cell (i := 5) rfl
              refine wpAnyH_ready (rs := [2,4]) (by kernel_rfl) (by simp) ?_
              refine AllReadyH.cons rfl (fun K' hK' => ?_) (AllReadyH.cons rfl (fun K' hK' => ?_) AllReadyH.nil)
              · go_simp
                refine (HAK.out _).mono ?_; rintro e w8 ⟨rfl, rfl⟩
                go_wp2_with fail
                refine hK'.out _ _ ?_ (fun hHeld => ?_)
                · exact trivial
                clear hK' K'
                (try simp only [Act.put, List.getElem_toArray, List.getElem_cons_succ, List.getElem_cons_zero, List.setIfInBounds_toArray, List.set_cons_zero, List.set_cons_succ])
                refine wpAnyH_ready (rs := [3,4]) (by kernel_rfl) (by simp) ?_
                refine AllReadyH.cons rfl (fun K' hK' => ?_) (AllReadyH.cons rfl (fun K' hK' => ?_) AllReadyH.nil)
                · go_simp
                  refine (HSG.out _).mono ?_; rintro e w8 ⟨rfl, rfl⟩
                  go_wp2_with fail
                  refine hK'.out _ _ ?_ (fun hHeld => ?_)
                  · exact trivial
                  clear hK' K'
                  (try simp only [Act.put, List.getElem_toArray, List.getElem_cons_succ, List.getElem_cons_zero, List.setIfInBounds_toArray, List.set_cons_zero, List.set_cons_succ])
                  refine wpAnyH_ready (rs := [4]) (by kernel_rfl) (by simp) ?_
                  refine AllReadyH.cons rfl (fun K' hK' => ?_) AllReadyH.nil
                  go_simp
                  refine hK'.out _ _ ?_ (fun hHeld => ?_)
                  · exact trivial
                  clear hK' K'
                  (try simp only [Act.put, List.getElem_toArray, List.getElem_cons_succ, List.getElem_cons_zero, List.setIfInBounds_toArray, List.set_cons_zero, List.set_cons_succ])
                  refine wpAnyH_ready (rs := [5]) (by kernel_rfl) (by simp) ?_
                  refine AllReadyH.cons rfl (fun K' hK' => ?_) AllReadyH.nil
                  go_simp
                  refine hK'.out _ _ ?_ (fun hHeld => ?_)
                  · exact trivial
                  clear hK' K'
                  (try simp only [Act.put, List.getElem_toArray, List.getElem_cons_succ, List.getElem_cons_zero, List.setIfInBounds_toArray, List.set_cons_zero, List.set_cons_succ])
                  refine wpAnyH_at (i := 6) (v := ?vr3_6) (d := 56) rfl rfl (by kernel_rfl) (by kernel_rfl) (by kernel_rfl) (fun _ _ _ h => h) (Or.inl ⟨by rfl, fun w' hSw => ?hyr3_6⟩) (by assumption) ?restr3_6
                  case hyr3_6 =>
                    (try dsimp only at hSw)
                    go_simp
                    (try with_reducible rfl)
                  (try simp only [Act.put, List.setIfInBounds_toArray, List.set_cons_zero, List.set_cons_succ])
                  clear c0 c1 c2 c3 c4 c5
                  have hzb3 : wd.heap.size ≠ z := fun e => by have := HBd.out.b9.lt; omega
                  have hzbw : wo.heap.size ≤ wd.heap.size := HBd.out.below.size
                  rw [show wd.alloc (.cells #[.int .i64 k, .int .u64 (x0 : Int), .int .u64 (x1 : Int), .int .u64 (x2 : Int), .int .u64 (x3 : Int), .slice A9 m9 c9] 33) = wd.alloc (.cells (ndL k [x0, x1, x2, x3] (.slice A9 m9 c9)).toArray 33) from rfl]
                  obtain ⟨zb, hzbe⟩ : ∃ q, wd.heap.size = q := ⟨_, rfl⟩
                  obtain ⟨wa, hwa⟩ : ∃ W, wd.alloc (.cells (ndL k [x0, x1, x2, x3] (.slice A9 m9 c9)).toArray 33) = W := ⟨_, rfl⟩
                  rw [hwa] at HB5
                  rw [hwa, hzbe] at HN5
                  rw [hzbe] at hzb3 hzbw
                  rw [hwa, hzbe]
                  have a0 := HB5.out.b9.cell (i := 0) rfl
                  have a1 := HB5.out.b9.cell (i := 1) rfl
                  have a2 := HB5.out.b9.cell (i := 2) rfl
                  have a3 := HB5.out.b9.cell (i := 3) rfl
                  have a4 := HB5.out.b9.cell (i := 4) rfl
                  have a5 := HB5.out.b9.cell (i := 5) rfl
                  have af := fun i => HB5.out.b9.frozen i
                  have HB6 := hide (HB5.out.wrap HN5.out hzbw hzb3 (gg : Int))
                  refine wpAnyH_ready (rs := [7]) (by kernel_rfl) (by simp) ?_
                  refine AllReadyH.cons rfl (fun K' hK' => ?_) AllReadyH.nil
                  go_simp
                  refine hK'.out _ _ ?_ (fun hHeld => ?_)
                  · exact trivial
                  clear hK' K' a0 a1 a2 a3 a4 a5 af
                  (try simp only [Act.put, List.getElem_toArray, List.getElem_cons_succ, List.getElem_cons_zero, List.setIfInBounds_toArray, List.set_cons_zero, List.set_cons_succ])
                  refine wpAnyH_done (by kernel_rfl) ?_ _
                  go_wp2_with fail
                  go_roundw
                  case rel => exact ⟨k0 + 1, .mk (gg : Int) noSet [n], f0 - 1, (gg : Int), 0, 0, 0, 0, some ⟨zb, 0, none⟩, 1, 1, by go_num, by omega, by omega, by rw [rest_size]; omega, HXM, HB6⟩
                  case measure => simp [intOf]; omega
                · go_simp
                  refine hK'.out _ _ ?_ (fun hHeld => ?_)
                  · exact trivial
                  clear hK' K'
                  (try simp only [Act.put, List.getElem_toArray, List.getElem_cons_succ, List.getElem_cons_zero, List.setIfInBounds_toArray, List.set_cons_zero, List.set_cons_succ])
                  refine wpAnyH_ready (rs := [3,5]) (by kernel_rfl) (by simp) ?_
                  refine AllReadyH.cons rfl (fun K' hK' => ?_) (AllReadyH.cons rfl (fun K' hK' => ?_) AllReadyH.nil)
                  · go_simp
                    refine (HSG.out _).mono ?_; rintro e w8 ⟨rfl, rfl⟩
                    go_wp2_with fail
                    refine hK'.out _ _ ?_ (fun hHeld => ?_)
                    · exact trivial
                    clear hK' K'
                    (try simp only [Act.put, List.getElem_toArray, List.getElem_cons_succ, List.getElem_cons_zero, List.setIfInBounds_toArray, List.set_cons_zero, List.set_cons_succ])
                    refine wpAnyH_ready (rs := [5]) (by kernel_rfl) (by simp) ?_
                    refine AllReadyH.cons rfl (fun K' hK' => ?_) AllReadyH.nil
                    go_simp
                    refine hK'.out _ _ ?_ (fun hHeld => ?_)
                    · exact trivial
                    clear hK' K'
                    (try simp only [Act.put, List.getElem_toArray, List.getElem_cons_succ, List.getElem_cons_zero, List.setIfInBounds_toArray, List.set_cons_zero, List.set_cons_succ])
                    refine wpAnyH_at (i := 6) (v := ?vr4_6) (d := 56) rfl rfl (by kernel_rfl) (by kernel_rfl) (by kernel_rfl) (fun _ _ _ h => h) (Or.inl ⟨by rfl, fun w' hSw => ?hyr4_6⟩) (by assumption) ?restr4_6
                    case hyr4_6 =>
                      (try dsimp only at hSw)
                      go_simp
                      (try with_reducible rfl)
                    (try simp only [Act.put, List.setIfInBounds_toArray, List.set_cons_zero, List.set_cons_succ])
                    clear c0 c1 c2 c3 c4 c5
                    have hzb3 : wd.heap.size ≠ z := fun e => by have := HBd.out.b9.lt; omega
                    have hzbw : wo.heap.size ≤ wd.heap.size := HBd.out.below.size
                    rw [show wd.alloc (.cells #[.int .i64 k, .int .u64 (x0 : Int), .int .u64 (x1 : Int), .int .u64 (x2 : Int), .int .u64 (x3 : Int), .slice A9 m9 c9] 33) = wd.alloc (.cells (ndL k [x0, x1, x2, x3] (.slice A9 m9 c9)).toArray 33) from rfl]
                    obtain ⟨zb, hzbe⟩ : ∃ q, wd.heap.size = q := ⟨_, rfl⟩
                    obtain ⟨wa, hwa⟩ : ∃ W, wd.alloc (.cells (ndL k [x0, x1, x2, x3] (.slice A9 m9 c9)).toArray 33) = W := ⟨_, rfl⟩
                    rw [hwa] at HB5
                    rw [hwa, hzbe] at HN5
                    rw [hzbe] at hzb3 hzbw
                    rw [hwa, hzbe]
                    have a0 := HB5.out.b9.cell (i := 0) rfl
                    have a1 := HB5.out.b9.cell (i := 1) rfl
                    have a2 := HB5.out.b9.cell (i := 2) rfl
                    have a3 := HB5.out.b9.cell (i := 3) rfl
                    have a4 := HB5.out.b9.cell (i := 4) rfl
                    have a5 := HB5.out.b9.cell (i := 5) rfl
                    have af := fun i => HB5.out.b9.frozen i
                    have HB6 := hide (HB5.out.wrap HN5.out hzbw hzb3 (gg : Int))
                    refine wpAnyH_ready (rs := [7]) (by kernel_rfl) (by simp) ?_
                    refine AllReadyH.cons rfl (fun K' hK' => ?_) AllReadyH.nil
                    go_simp
                    refine hK'.out _ _ ?_ (fun hHeld => ?_)
                    · exact trivial
                    clear hK' K' a0 a1 a2 a3 a4 a5 af
                    (try simp only [Act.put, List.getElem_toArray, List.getElem_cons_succ, List.getElem_cons_zero, List.setIfInBounds_toArray, List.set_cons_zero, List.set_cons_succ])
                    refine wpAnyH_done (by kernel_rfl) ?_ _
                    go_wp2_with fail
                    go_roundw
                    case rel => exact ⟨k0 + 1, .mk (gg : Int) noSet [n], f0 - 1, (gg : Int), 0, 0, 0, 0, some ⟨zb, 0, none⟩, 1, 1, by go_num, by omega, by omega, by rw [rest_size]; omega, HXM, HB6⟩
                    case measure => simp [intOf]; omega
                  · go_simp
                    refine hK'.out _ _ ?_ (fun hHeld => ?_)
                    · exact trivial
                    clear hK' K'
                    (try simp only [Act.put, List.getElem_toArray, List.getElem_cons_succ, List.getElem_cons_zero, List.setIfInBounds_toArray, List.set_cons_zero, List.set_cons_succ])
                    refine wpAnyH_ready (rs := [3]) (by kernel_rfl) (by simp) ?_
                    refine AllReadyH.cons rfl (fun K' hK' => ?_) AllReadyH.nil
                    go_simp
                    refine (HSG.out _).mono ?_; rintro e w8 ⟨rfl, rfl⟩
                    go_wp2_with fail
                    refine hK'.out _ _ ?_ (fun hHeld => ?_)
                    · exact trivial
                    clear hK' K'
                    (try simp only [Act.put, List.getElem_toArray, List.getElem_cons_succ, List.getElem_cons_zero, List.setIfInBounds_toArray, List.set_cons_zero, List.set_cons_succ])
                    refine wpAnyH_at (i := 6) (v := ?vr5_6) (d := 56) rfl rfl (by kernel_rfl) (by kernel_rfl) (by kernel_rfl) (fun _ _ _ h => h) (Or.inl ⟨by rfl, fun w' hSw => ?hyr5_6⟩) (by assumption) ?restr5_6
                    case hyr5_6 =>
                      (try dsimp only at hSw)
                      go_simp
                      (try with_reducible rfl)
                    (try simp only [Act.put, List.setIfInBounds_toArray, List.set_cons_zero, List.set_cons_succ])
                    clear c0 c1 c2 c3 c4 c5
                    have hzb3 : wd.heap.size ≠ z := fun e => by have := HBd.out.b9.lt; omega
                    have hzbw : wo.heap.size ≤ wd.heap.size := HBd.out.below.size
                    rw [show wd.alloc (.cells #[.int .i64 k, .int .u64 (x0 : Int), .int .u64 (x1 : Int), .int .u64 (x2 : Int), .int .u64 (x3 : Int), .slice A9 m9 c9] 33) = wd.alloc (.cells (ndL k [x0, x1, x2, x3] (.slice A9 m9 c9)).toArray 33) from rfl]
                    obtain ⟨zb, hzbe⟩ : ∃ q, wd.heap.size = q := ⟨_, rfl⟩
                    obtain ⟨wa, hwa⟩ : ∃ W, wd.alloc (.cells (ndL k [x0, x1, x2, x3] (.slice A9 m9 c9)).toArray 33) = W := ⟨_, rfl⟩
                    rw [hwa] at HB5
                    rw [hwa, hzbe] at HN5
                    rw [hzbe] at hzb3 hzbw
                    rw [hwa, hzbe]
                    have a0 := HB5.out.b9.cell (i := 0) rfl
                    have a1 := HB5.out.b9.cell (i := 1) rfl
                    have a2 := HB5.out.b9.cell (i := 2) rfl
                    have a3 := HB5.out.b9.cell (i := 3) rfl
                    have a4 := HB5.out.b9.cell (i := 4) rfl
                    have a5 := HB5.out.b9.cell (i := 5) rfl
                    have af := fun i => HB5.out.b9.frozen i
                    have HB6 := hide (HB5.out.wrap HN5.out hzbw hzb3 (gg : Int))
                    refine wpAnyH_ready (rs := [7]) (by kernel_rfl) (by simp) ?_
                    refine AllReadyH.cons rfl (fun K' hK' => ?_) AllReadyH.nil
                    go_simp
                    refine hK'.out _ _ ?_ (fun hHeld => ?_)
                    · exact trivial
                    clear hK' K' a0 a1 a2 a3 a4 a5 af
                    (try simp only [Act.put, List.getElem_toArray, List.getElem_cons_succ, List.getElem_cons_zero, List.setIfInBounds_toArray, List.set_cons_zero, List.set_cons_succ])
                    refine wpAnyH_done (by kernel_rfl) ?_ _
                    go_wp2_with fail
                    go_roundw
                    case rel => exact ⟨k0 + 1, .mk (gg : Int) noSet [n], f0 - 1, (gg : Int), 0, 0, 0, 0, some ⟨zb, 0, none⟩, 1, 1, by go_num, by omega, by omega, by rw [rest_size]; omega, HXM, HB6⟩
                    case measure => simp [intOf]; omega
              · go_simp
                refine hK'.out _ _ ?_ (fun hHeld => ?_)
                · exact trivial
                clear hK' K'
                (try simp only [Act.put, List.getElem_toArray, List.getElem_cons_succ, List.getElem_cons_zero, List.setIfInBounds_toArray, List.set_cons_zero, List.set_cons_succ])
                refine wpAnyH_ready (rs := [2,5]) (by kernel_rfl) (by simp) ?_
                refine AllReadyH.cons rfl (fun K' hK' => ?_) (AllReadyH.cons rfl (fun K' hK' => ?_) AllReadyH.nil)
                · go_simp
                  refine (HAK.out _).mono ?_; rintro e w8 ⟨rfl, rfl⟩
                  go_wp2_with fail
                  refine hK'.out _ _ ?_ (fun hHeld => ?_)
                  · exact trivial
                  clear hK' K'
                  (try simp only [Act.put, List.getElem_toArray, List.getElem_cons_succ, List.getElem_cons_zero, List.setIfInBounds_toArray, List.set_cons_zero, List.set_cons_succ])
                  refine wpAnyH_ready (rs := [3,5]) (by kernel_rfl) (by simp) ?_
                  refine AllReadyH.cons rfl (fun K' hK' => ?_) (AllReadyH.cons rfl (fun K' hK' => ?_) AllReadyH.nil)
                  · go_simp
                    refine (HSG.out _).mono ?_; rintro e w8 ⟨rfl, rfl⟩
                    go_wp2_with fail
                    refine hK'.out _ _ ?_ (fun hHeld => ?_)
                    · exact trivial
                    clear hK' K'
                    (try simp only [Act.put, List.getElem_toArray, List.getElem_cons_succ, List.getElem_cons_zero, List.setIfInBounds_toArray, List.set_cons_zero, List.set_cons_succ])
                    refine wpAnyH_ready (rs := [5]) (by kernel_rfl) (by simp) ?_
                    refine AllReadyH.cons rfl (fun K' hK' => ?_) AllReadyH.nil
                    go_simp
                    refine hK'.out _ _ ?_ (fun hHeld => ?_)
                    · exact trivial
                    clear hK' K'
                    (try simp only [Act.put, List.getElem_toArray, List.getElem_cons_succ, List.getElem_cons_zero, List.setIfInBounds_toArray, List.set_cons_zero, List.set_cons_succ])
                    refine wpAnyH_at (i := 6) (v := ?vr6_6) (d := 56) rfl rfl (by kernel_rfl) (by kernel_rfl) (by kernel_rfl) (fun _ _ _ h => h) (Or.inl ⟨by rfl, fun w' hSw => ?hyr6_6⟩) (by assumption) ?restr6_6
                    case hyr6_6 =>
                      (try dsimp only at hSw)
                      go_simp
                      (try with_reducible rfl)
                    (try simp only [Act.put, List.setIfInBounds_toArray, List.set_cons_zero, List.set_cons_succ])
                    clear c0 c1 c2 c3 c4 c5
                    have hzb3 : wd.heap.size ≠ z := fun e => by have := HBd.out.b9.lt; omega
                    have hzbw : wo.heap.size ≤ wd.heap.size := HBd.out.below.size
                    rw [show wd.alloc (.cells #[.int .i64 k, .int .u64 (x0 : Int), .int .u64 (x1 : Int), .int .u64 (x2 : Int), .int .u64 (x3 : Int), .slice A9 m9 c9] 33) = wd.alloc (.cells (ndL k [x0, x1, x2, x3] (.slice A9 m9 c9)).toArray 33) from rfl]
                    obtain ⟨zb, hzbe⟩ : ∃ q, wd.heap.size = q := ⟨_, rfl⟩
                    obtain ⟨wa, hwa⟩ : ∃ W, wd.alloc (.cells (ndL k [x0, x1, x2, x3] (.slice A9 m9 c9)).toArray 33) = W := ⟨_, rfl⟩
                    rw [hwa] at HB5
                    rw [hwa, hzbe] at HN5
                    rw [hzbe] at hzb3 hzbw
                    rw [hwa, hzbe]
                    have a0 := HB5.out.b9.cell (i := 0) rfl
                    have a1 := HB5.out.b9.cell (i := 1) rfl
                    have a2 := HB5.out.b9.cell (i := 2) rfl
                    have a3 := HB5.out.b9.cell (i := 3) rfl
                    have a4 := HB5.out.b9.cell (i := 4) rfl
                    have a5 := HB5.out.b9.cell (i := 5) rfl
                    have af := fun i => HB5.out.b9.frozen i
                    have HB6 := hide (HB5.out.wrap HN5.out hzbw hzb3 (gg : Int))
                    refine wpAnyH_ready (rs := [7]) (by kernel_rfl) (by simp) ?_
                    refine AllReadyH.cons rfl (fun K' hK' => ?_) AllReadyH.nil
                    go_simp
                    refine hK'.out _ _ ?_ (fun hHeld => ?_)
                    · exact trivial
                    clear hK' K' a0 a1 a2 a3 a4 a5 af
                    (try simp only [Act.put, List.getElem_toArray, List.getElem_cons_succ, List.getElem_cons_zero, List.setIfInBounds_toArray, List.set_cons_zero, List.set_cons_succ])
                    refine wpAnyH_done (by kernel_rfl) ?_ _
                    go_wp2_with fail
                    go_roundw
                    case rel => exact ⟨k0 + 1, .mk (gg : Int) noSet [n], f0 - 1, (gg : Int), 0, 0, 0, 0, some ⟨zb, 0, none⟩, 1, 1, by go_num, by omega, by omega, by rw [rest_size]; omega, HXM, HB6⟩
                    case measure => simp [intOf]; omega
                  · go_simp
                    refine hK'.out _ _ ?_ (fun hHeld => ?_)
                    · exact trivial
                    clear hK' K'
                    (try simp only [Act.put, List.getElem_toArray, List.getElem_cons_succ, List.getElem_cons_zero, List.setIfInBounds_toArray, List.set_cons_zero, List.set_cons_succ])
                    refine wpAnyH_ready (rs := [3]) (by kernel_rfl) (by simp) ?_
                    refine AllReadyH.cons rfl (fun K' hK' => ?_) AllReadyH.nil
                    go_simp
                    refine (HSG.out _).mono ?_; rintro e w8 ⟨rfl, rfl⟩
                    go_wp2_with fail
                    refine hK'.out _ _ ?_ (fun hHeld => ?_)
                    · exact trivial
                    clear hK' K'
                    (try simp only [Act.put, List.getElem_toArray, List.getElem_cons_succ, List.getElem_cons_zero, List.setIfInBounds_toArray, List.set_cons_zero, List.set_cons_succ])
                    refine wpAnyH_at (i := 6) (v := ?vr7_6) (d := 56) rfl rfl (by kernel_rfl) (by kernel_rfl) (by kernel_rfl) (fun _ _ _ h => h) (Or.inl ⟨by rfl, fun w' hSw => ?hyr7_6⟩) (by assumption) ?restr7_6
                    case hyr7_6 =>
                      (try dsimp only at hSw)
                      go_simp
                      (try with_reducible rfl)
                    (try simp only [Act.put, List.setIfInBounds_toArray, List.set_cons_zero, List.set_cons_succ])
                    clear c0 c1 c2 c3 c4 c5
                    have hzb3 : wd.heap.size ≠ z := fun e => by have := HBd.out.b9.lt; omega
                    have hzbw : wo.heap.size ≤ wd.heap.size := HBd.out.below.size
                    rw [show wd.alloc (.cells #[.int .i64 k, .int .u64 (x0 : Int), .int .u64 (x1 : Int), .int .u64 (x2 : Int), .int .u64 (x3 : Int), .slice A9 m9 c9] 33) = wd.alloc (.cells (ndL k [x0, x1, x2, x3] (.slice A9 m9 c9)).toArray 33) from rfl]
                    obtain ⟨zb, hzbe⟩ : ∃ q, wd.heap.size = q := ⟨_, rfl⟩
                    obtain ⟨wa, hwa⟩ : ∃ W, wd.alloc (.cells (ndL k [x0, x1, x2, x3] (.slice A9 m9 c9)).toArray 33) = W := ⟨_, rfl⟩
                    rw [hwa] at HB5
                    rw [hwa, hzbe] at HN5
                    rw [hzbe] at hzb3 hzbw
                    rw [hwa, hzbe]
                    have a0 := HB5.out.b9.cell (i := 0) rfl
                    have a1 := HB5.out.b9.cell (i := 1) rfl
                    have a2 := HB5.out.b9.cell (i := 2) rfl
                    have a3 := HB5.out.b9.cell (i := 3) rfl
                    have a4 := HB5.out.b9.cell (i := 4) rfl
                    have a5 := HB5.out.b9.cell (i := 5) rfl
                    have af := fun i => HB5.out.b9.frozen i
                    have HB6 := hide (HB5.out.wrap HN5.out hzbw hzb3 (gg : Int))
                    refine wpAnyH_ready (rs := [7]) (by kernel_rfl) (by simp) ?_
                    refine AllReadyH.cons rfl (fun K' hK' => ?_) AllReadyH.nil
                    go_simp
                    refine hK'.out _ _ ?_ (fun hHeld => ?_)
                    · exact trivial
                    clear hK' K' a0 a1 a2 a3 a4 a5 af
                    (try simp only [Act.put, List.getElem_toArray, List.getElem_cons_succ, List.getElem_cons_zero, List.setIfInBounds_toArray, List.set_cons_zero, List.set_cons_succ])
                    refine wpAnyH_done (by kernel_rfl) ?_ _
                    go_wp2_with fail
                    go_roundw
                    case rel => exact ⟨k0 + 1, .mk (gg : Int) noSet [n], f0 - 1, (gg : Int), 0, 0, 0, 0, some ⟨zb, 0, none⟩, 1, 1, by go_num, by omega, by omega, by rw [rest_size]; omega, HXM, HB6⟩
                    case measure => simp [intOf]; omega
                · go_simp
                  refine hK'.out _ _ ?_ (fun hHeld => ?_)
                  · exact trivial
                  clear hK' K'
                  (try simp only [Act.put, List.getElem_toArray, List.getElem_cons_succ, List.getElem_cons_zero, List.setIfInBounds_toArray, List.set_cons_zero, List.set_cons_succ])
                  refine wpAnyH_ready (rs := [2]) (by kernel_rfl) (by simp) ?_
                  refine AllReadyH.cons rfl (fun K' hK' => ?_) AllReadyH.nil
                  go_simp
                  refine (HAK.out _).mono ?_; rintro e w8 ⟨rfl, rfl⟩
                  go_wp2_with fail
                  refine hK'.out _ _ ?_ (fun hHeld => ?_)
                  · exact trivial
                  clear hK' K'
                  (try simp only [Act.put, List.getElem_toArray, List.getElem_cons_succ, List.getElem_cons_zero, List.setIfInBounds_toArray, List.set_cons_zero, List.set_cons_succ])
                  refine wpAnyH_ready (rs := [3]) (by kernel_rfl) (by simp) ?_
                  refine AllReadyH.cons rfl (fun K' hK' => ?_) AllReadyH.nil
                  go_simp
                  refine (HSG.out _).mono ?_; rintro e w8 ⟨rfl, rfl⟩
                  go_wp2_with fail
                  refine hK'.out _ _ ?_ (fun hHeld => ?_)
                  · exact trivial
                  clear hK' K'
                  (try simp only [Act.put, List.getElem_toArray, List.getElem_cons_succ, List.getElem_cons_zero, List.setIfInBounds_toArray, List.set_cons_zero, List.set_cons_succ])
                  refine wpAnyH_at (i := 6) (v := ?vr8_6) (d := 56) rfl rfl (by kernel_rfl) (by kernel_rfl) (by kernel_rfl) (fun _ _ _ h => h) (Or.inl ⟨by rfl, fun w' hSw => ?hyr8_6⟩) (by assumption) ?restr8_6
                  case hyr8_6 =>
                    (try dsimp only at hSw)
                    go_simp
                    (try with_reducible rfl)
                  (try simp only [Act.put, List.setIfInBounds_toArray, List.set_cons_zero, List.set_cons_succ])
                  clear c0 c1 c2 c3 c4 c5
                  have hzb3 : wd.heap.size ≠ z := fun e => by have := HBd.out.b9.lt; omega
                  have hzbw : wo.heap.size ≤ wd.heap.size := HBd.out.below.size
                  rw [show wd.alloc (.cells #[.int .i64 k, .int .u64 (x0 : Int), .int .u64 (x1 : Int), .int .u64 (x2 : Int), .int .u64 (x3 : Int), .slice A9 m9 c9] 33) = wd.alloc (.cells (ndL k [x0, x1, x2, x3] (.slice A9 m9 c9)).toArray 33) from rfl]
                  obtain ⟨zb, hzbe⟩ : ∃ q, wd.heap.size = q := ⟨_, rfl⟩
                  obtain ⟨wa, hwa⟩ : ∃ W, wd.alloc (.cells (ndL k [x0, x1, x2, x3] (.slice A9 m9 c9)).toArray 33) = W := ⟨_, rfl⟩
                  rw [hwa] at HB5
                  rw [hwa, hzbe] at HN5
                  rw [hzbe] at hzb3 hzbw
                  rw [hwa, hzbe]
                  have a0 := HB5.out.b9.cell (i := 0) rfl
                  have a1 := HB5.out.b9.cell (i := 1) rfl
                  have a2 := HB5.out.b9.cell (i := 2) rfl
                  have a3 := HB5.out.b9.cell (i := 3) rfl
                  have a4 := HB5.out.b9.cell (i := 4) rfl
                  have a5 := HB5.out.b9.cell (i := 5) rfl
                  have af := fun i => HB5.out.b9.frozen i
                  have HB6 := hide (HB5.out.wrap HN5.out hzbw hzb3 (gg : Int))
                  refine wpAnyH_ready (rs := [7]) (by kernel_rfl) (by simp) ?_
                  refine AllReadyH.cons rfl (fun K' hK' => ?_) AllReadyH.nil
                  go_simp
                  refine hK'.out _ _ ?_ (fun hHeld => ?_)
                  · exact trivial
                  clear hK' K' a0 a1 a2 a3 a4 a5 af
                  (try simp only [Act.put, List.getElem_toArray, List.getElem_cons_succ, List.getElem_cons_zero, List.setIfInBounds_toArray, List.set_cons_zero, List.set_cons_succ])
                  refine wpAnyH_done (by kernel_rfl) ?_ _
                  go_wp2_with fail
                  go_roundw
                  case rel => exact ⟨k0 + 1, .mk (gg : Int) noSet [n], f0 - 1, (gg : Int), 0, 0, 0, 0, some ⟨zb, 0, none⟩, 1, 1, by go_num, by omega, by omega, by rw [rest_size]; omega, HXM, HB6⟩
                  case measure => simp [intOf]; omega
            · obtain rfl : gg = 0 := by omega
              have HX3 := hide (show (n, rest s k0) = X2 by rw [← HXE.out, signsE_end n (rest s k0) f0 (by rw [hgg]; omega)])
              have HPY := hide (show finR R (g + 1) all (rowL R f (row ++ [n]) (rest s k0)) = X by have h := HPX.out; rw [← HX3.out] at h; exact h)
              clear HXE HX3 HPX hgg
              go_wp2_with fail
              refine (HAK.out _).mono ?_; rintro e w4 ⟨rfl, rfl⟩
              go_wp2_with fail
              refine (HSG.out _).mono ?_; rintro e w4 ⟨rfl, rfl⟩
              have c0 := HS.out.b9.cell (i := 0) rfl
              have c1 := HS.out.b9.cell (i := 1) rfl
              have c2 := HS.out.b9.cell (i := 2) rfl
              have c3 := HS.out.b9.cell (i := 3) rfl
              have c4 := HS.out.b9.cell (i := 4) rfl
              have c5 := HS.out.b9.cell (i := 5) rfl
              have hbl : Below wr.heap.size wr (wr.alloc (.cells (ndL k [x0, x1, x2, x3] (.slice A9 m9 c9)).toArray 33)) := (Below.refl _ _).alloc (Nat.le_refl _) _
              have HBa := hide ((HB.out.low HS.out.below).low hbl)
              have hof := HB.out.fw.size
              have HNa := hide ((NdX.keep (Q := fun b => Wf.heap.size ≤ b ∧ some b ≠ u7.ownBlock) (fun b hb _ => ⟨by omega, fun e => by have := (HB.out.r7.own b e.symm).2; omega⟩) (Nat.le_refl _) (fun _ _ _ _ h => h) _ _ HS.out.nd).low hbl)
              obtain ⟨Cs, hc1, hc2, hc3, hc4⟩ := HBa.out.r7
              have HC4 := hide hc4
              have hzz := HBa.out.fw.size
              clear hbl hc4
              go_wp2_with (at_builtin; refine wpList_append_own_at _ rfl _ _ 31 rfl Wf.heap.size 33 i0i _ 6 64 Tryd.underlying31 hinf hz0 hz1 hz2 (by rfl) (by decide) u7 row.length Cs.flatten rfl hc3 ⟨wr.heap.size, 0, none⟩ 1 1 (ndL k [x0, x1, x2, x3] (.slice A9 m9 c9)) rfl rfl (new_atM wr (ndL k [x0, x1, x2, x3] (.slice A9 m9 c9))) (NdX.one HNa.out) (by unfold maxLen; omega) (by omega) hzz ?_; intro v' w5 hown1 hgrow1 _ hat1)
              have HB5 := hide (HBa.out.app7 hc1 hc2 hc3 HC4.out HNa.out hown1 hgrow1 hat1)
              clear hown1 hgrow1 hat1 HC4 hc1 hc2 hc3 HBa HNa HB c0 c1 c2 c3 c4 c5
              go_wp2
              go_roundw
              case rel => exact ⟨k0, f, g + 1, all, row ++ [n], Wf, rfl, by omega, hks, by rw [rest_size]; omega, by omega, by rw [List.length_append]; simp; omega, HPY, HB5⟩
              case measure => simp [intOf]; omega
end Go.Proofs.YtfamoikmfbpigaaDoor
