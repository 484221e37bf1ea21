/- The walk of limnerlaw05.UndoBack. -/
import Derived.Test.YtgpcpfohfoeclaaUhist
namespace Go.Proofs.Ytgpcpfohfoeclaa
open Go.RowKit

theorem byteS_size (n : Int) : (byteS n).size ≤ 16384 := by simp [byteS, ByteArray.size]
theorem cont_size (zs : List Int) (j : Nat) : (cont zs j).size ≤ 16384 := by
  unfold cont
  by_cases h : j = 0
  · rw [if_pos h]; simp [ByteArray.size]
  · rw [if_neg h]; exact byteS_size _
theorem cont_succ (zs : List Int) (j : Nat) : cont zs (j + 1) = byteS (zs.getD j 0) := by unfold cont; rw [if_neg (by omega), Nat.add_sub_cancel]

set_option maxHeartbeats 1000000 in
set_option maxRecDepth 100000 in
theorem UndoBack_any (v : Value) (zs : List Int) (w : World) (h : Nums w v zs) : Calls Try.prog 3 #[v] w fun e w' => e = .returned (.bool true) ∧ Below w.heap.size w w' := by
  have HN := hide h
  obtain ⟨A, cap, rfl, hmax, hc⟩ := h
  have HC := hide hc
  have HM := hide hmax
  clear hc
  unfold maxLen at hmax
  by_cases hsm : 120 < zs.length
  · go_enter Try.func3, Try.ntmps3
    go_wp2_with fail
    refine (undone_any w).mono ?_; rintro e w1 ⟨rfl, hb1⟩
    go_wp2
    go_ret
    exact ⟨rfl, hb1⟩
  obtain ⟨q, hq⟩ : ∃ q : Nat, zs.length - (zs.length - 100) = q := ⟨_, rfl⟩
  have hmin : min (zs.length : Int) 100 = (q : Int) := by omega
  have hsub : (zs.length : Int) - (q : Int) = ((zs.length - 100 : Nat) : Int) := by omega
  have HB := hide (Below.refl w.heap.size w)
  go_enter Try.func3, Try.ntmps3
  go_wp2_with fail
  refine (mk2 ⟨#[]⟩ _ (by decide)).mono ?_; rintro e w1 ⟨ga, rfl, t1, b1⟩
  replace HB := hide (HB.out.trans (b1.mono HB.out.size))
  have TA := hide t1
  clear t1 b1
  go_wp2_with fail
  refine (new_und w.heap.size (ga, 0, ⟨#[]⟩) _ HB.out.size TA.out).mono ?_; rintro e w2 ⟨rfl, u1, b1⟩
  obtain ⟨u, hu⟩ : ∃ m, w1.heap.size = m := ⟨_, rfl⟩
  rw [hu] at u1 ⊢
  clear hu
  replace HB := hide (HB.out.trans (b1.mono HB.out.size))
  have HS := hide (st_new w.heap.size u ga zs w2 u1)
  clear u1 b1 TA
  go_wp2_with fail
  go_loopw [4] (fun i wr => ∃ (k : Nat) (L : List (Nat × Int × ByteArray)), k ≤ zs.length ∧ i = .int .i64 k ∧ L.length = k + 1 ∧ Hid (LG zs L) ∧ Hid (St wr w.heap.size u L k k) ∧ Hid (Below w.heap.size w wr)) (fun i _ => zs.length - (intOf i).toNat)
  case atStart => exact ⟨0, _, by omega, rfl, rfl, hide HS.out.2, hide HS.out.1, HB⟩
  case round =>
    obtain ⟨k, L, hk, rfl, hL, HG, HSt, HBr⟩ := hrel
    by_cases hlt : k < zs.length
    · obtain ⟨b, o, rfl, hcell, hr0, hr1⟩ := HC.out k hlt
      have hcell' := (HBr.out.cell (p := ⟨b, o + k, none⟩) (World.block_lt_of_cell? _ _ hcell)).trans hcell
      have HCS := hide (cont_succ zs k)
      generalize zs.getD k 0 = n at *
      go_wp2_with fail
      refine (bytes_any n _ hr0 hr1).mono ?_; rintro e w3 ⟨rfl, b1⟩
      replace HBr := hide (HBr.out.trans (b1.mono HBr.out.size))
      replace HSt := hide (HSt.out.below b1)
      clear b1 hcell hcell'
      have HZ := hide (byteS_size n)
      generalize byteS n = sn at *
      go_wp2_with fail
      refine (mk2 sn _ HZ.out).mono ?_; rintro e w4 ⟨g, rfl, t1, b1⟩
      replace HBr := hide (HBr.out.trans (b1.mono HBr.out.size))
      replace HSt := hide (HSt.out.below b1)
      have HT := hide t1
      clear b1 t1
      go_wp2_with fail
      refine (st_do w.heap.size u L k (g, (k : Int) + 1, sn) (-(k : Int)) _ HSt.out HBr.out.size hL (by omega) HT.out (by omega) (by omega)).mono ?_; rintro e w5 ⟨rfl, s1, k1, b1⟩
      replace HBr := hide (HBr.out.trans b1)
      have HS2 := hide s1
      have HG2 := hide (HG.out.snoc (g, (k : Int) + 1, sn) (by rw [hL]; simp) (by rw [hL, HCS.out]))
      clear s1 k1 b1 HSt HT
      go_wp2
      go_roundw
      case rel => exact ⟨k + 1, _, by omega, by go_num, by simp [hL], HG2, HS2, HBr⟩
      case measure => simp [intOf]; omega
    · obtain rfl : k = zs.length := by omega
      go_wp2_with fail
      go_loopw [6] (fun i wr => ∃ m : Nat, m ≤ zs.length ∧ zs.length - 100 ≤ m ∧ i = .int .i64 ((m : Int) - 1) ∧ Hid (St wr w.heap.size u L zs.length m) ∧ Hid (Below w.heap.size w wr)) (fun i _ => (intOf i + 1).toNat)
      case atStart => exact ⟨zs.length, by omega, by omega, by go_num, HSt, HBr⟩
      case round =>
        obtain ⟨m, hm, hm2, rfl, HSm, HBm⟩ := hrel
        by_cases hlt2 : zs.length - 100 < m
        · obtain ⟨p, rfl⟩ : ∃ p, m = p + 1 := ⟨m - 1, by omega⟩
          have hp1 : ((p + 1 : Nat) : Int) - 1 = (p : Int) := by omega
          rw [hp1]
          clear hp1
          go_wp2_with fail
          refine (st_undo w.heap.size u L zs.length p _ HSm.out HBm.out.size hL (by omega) (by omega)).mono ?_; rintro e w6 ⟨⟨gy, cy, sy⟩, hy, rfl, s1, t1, k1, b1⟩
          replace HBm := hide (HBm.out.trans b1)
          replace HSm := hide s1
          have HT := hide t1
          obtain ⟨hcy, hsy⟩ := HG.out p _ hy
          dsimp only at hcy hsy
          subst hcy
          have HY := hide hsy
          clear s1 t1 k1 b1 hsy hy
          by_cases hp : p = 0
          · subst hp
            obtain rfl : sy = ⟨#[]⟩ := HY.out
            go_wp2_with fail
            refine (is_true _ _ _ _ (by decide) HT.out).mono ?_; rintro e w7 ⟨rfl, b1⟩
            replace HBm := hide (HBm.out.trans (b1.mono HBm.out.size))
            replace HSm := hide (HSm.out.below b1)
            clear b1
            go_wp2
            go_roundw
            case rel => exact ⟨0, by omega, by omega, by go_num, HSm, HBm⟩
            case measure => simp [intOf]
          · obtain ⟨r, rfl⟩ : ∃ r, p = r + 1 := ⟨p - 1, by omega⟩
            have hr1 : IntKind.i64.wrap (((r + 1 : Nat) : Int) - 1) = (r : Int) := by rw [Go.wrap_small _ (by omega) (by omega)]; omega
            obtain ⟨b, o, rfl, hcell, hq0, hq1⟩ := HC.out r (by omega)
            have hcell' := (HBm.out.cell (p := ⟨b, o + r, none⟩) (World.block_lt_of_cell? _ _ hcell)).trans hcell
            have hsy := HY.out
            rw [cont_succ] at hsy
            have HY2 := hide hsy
            clear hsy HY
            generalize zs.getD r 0 = n at *
            go_wp2_with fail
            refine (bytes_any n _ hq0 hq1).mono ?_; rintro e w7 ⟨rfl, b1⟩
            replace HBm := hide (HBm.out.trans (b1.mono HBm.out.size))
            replace HSm := hide (HSm.out.below b1)
            replace HT := hide (HT.out.below b1)
            clear b1 hcell hcell'
            rw [← HY2.out]
            have HZ := hide (show sy.size ≤ 16384 by rw [HY2.out]; exact byteS_size n)
            go_wp2_with fail
            refine (is_true _ _ _ _ HZ.out HT.out).mono ?_; rintro e w8 ⟨rfl, b1⟩
            replace HBm := hide (HBm.out.trans (b1.mono HBm.out.size))
            replace HSm := hide (HSm.out.below b1)
            clear b1
            go_wp2
            go_roundw
            case rel => exact ⟨r + 1, by omega, by omega, by go_num, HSm, HBm⟩
            case measure => simp [intOf]; omega
        · obtain rfl : m = zs.length - 100 := by omega
          go_wp2_with fail
          refine (st_undo_zero w.heap.size u L zs.length _ HSm.out hL).mono ?_; rintro e w6 ⟨rfl, b1⟩
          replace HBm := hide (HBm.out.trans (b1.mono HBm.out.size))
          replace HSm := hide (HSm.out.below b1)
          clear b1
          go_wp2_with fail
          refine (st_steps w.heap.size u L zs.length (zs.length - 100) 0 q _ HSm.out hL (by omega) (by omega) (by omega)).mono ?_; rintro e w7 ⟨rfl, b1⟩
          replace HBm := hide (HBm.out.trans (b1.mono HBm.out.size))
          replace HSm := hide (HSm.out.below b1)
          clear b1
          go_wp2_with fail
          go_loopw [14] (fun i wr => ∃ m : Nat, m ≤ zs.length ∧ zs.length - 100 ≤ m ∧ i = .int .i64 (m : Int) ∧ Hid (St wr w.heap.size u L zs.length m) ∧ Hid (Below w.heap.size w wr)) (fun i _ => zs.length - (intOf i).toNat)
          case atStart => exact ⟨zs.length - 100, by omega, by omega, by go_num, HSm, HBm⟩
          case round =>
            obtain ⟨m, hm, hm2, rfl, HSm, HBm⟩ := hrel
            by_cases hlt3 : m < zs.length
            · go_wp2_with fail
              refine (st_redo w.heap.size u L zs.length m _ HSm.out HBm.out.size hL (by omega) (by omega) hlt3).mono ?_; rintro e w8 ⟨⟨gy, cy, sy⟩, hy, rfl, s1, t1, k1, b1⟩
              replace HBm := hide (HBm.out.trans b1)
              replace HSm := hide s1
              have HT := hide t1
              obtain ⟨hcy, hsy⟩ := HG.out (m + 1) _ hy
              dsimp only at hcy hsy
              rw [cont_succ] at hsy
              rw [hcy]
              have hcy2 : ((m + 1 : Nat) : Int) = (m : Int) + 1 := by omega
              rw [hcy2]
              have HY2 := hide hsy
              clear s1 t1 k1 b1 hsy hy hcy hcy2
              obtain ⟨b, o, rfl, hcell, hq0, hq1⟩ := HC.out m (by omega)
              have hcell' := (HBm.out.cell (p := ⟨b, o + m, none⟩) (World.block_lt_of_cell? _ _ hcell)).trans hcell
              generalize zs.getD m 0 = n at *
              go_wp2_with fail
              refine (bytes_any n _ hq0 hq1).mono ?_; rintro e w9 ⟨rfl, b1⟩
              replace HBm := hide (HBm.out.trans (b1.mono HBm.out.size))
              replace HSm := hide (HSm.out.below b1)
              replace HT := hide (HT.out.below b1)
              clear b1 hcell hcell'
              rw [← HY2.out]
              have HZ := hide (show sy.size ≤ 16384 by rw [HY2.out]; exact byteS_size n)
              go_wp2_with fail
              refine (is_true _ _ _ _ HZ.out HT.out).mono ?_; rintro e w10 ⟨rfl, b1⟩
              replace HBm := hide (HBm.out.trans (b1.mono HBm.out.size))
              replace HSm := hide (HSm.out.below b1)
              clear b1
              go_wp2
              go_roundw
              case rel => exact ⟨m + 1, by omega, by omega, by go_num, HSm, HBm⟩
              case measure => simp [intOf]; omega
            · obtain rfl : m = zs.length := by omega
              go_wp2_with fail
              refine (st_redo_zero w.heap.size u L zs.length _ HSm.out hL).mono ?_; rintro e w8 ⟨rfl, b1⟩
              replace HBm := hide (HBm.out.trans (b1.mono HBm.out.size))
              replace HSm := hide (HSm.out.below b1)
              clear b1
              go_wp2_with fail
              refine (st_steps w.heap.size u L zs.length zs.length q 0 _ HSm.out hL (by omega) (by omega) (by omega)).mono ?_; rintro e w9 ⟨rfl, b1⟩
              replace HBm := hide (HBm.out.trans (b1.mono HBm.out.size))
              clear b1
              go_wp2_with fail
              refine (undone_any _).mono ?_; rintro e w10 ⟨rfl, b1⟩
              replace HBm := hide (HBm.out.trans (b1.mono HBm.out.size))
              go_wp2
              go_ret
              exact ⟨rfl, HBm.out⟩
end Go.Proofs.Ytgpcpfohfoeclaa
