/- regs: rows. -/
import Derived.Test.YtfamoikmfbpigaaDoorErow
namespace Go.Proofs.YtfamoikmfbpigaaDoor
open Go.RowKit

set_option maxHeartbeats 4000000 in
set_option maxRecDepth 100000 in
theorem rows_step (r p : Nat) (s : ByteArray) (R : ByteArray → Option (Nd × ByteArray)) (w : World) (h : Rd w p s) (hm : s.size ≤ 100000) (hS : SGr r w) (hrp : r ≠ p) (hgp : 1 ≠ p)
    (hR : ∀ u W, u.size < s.size → Rd W p u → KeepR p w W → Calls Tryd.prog 27 #[.pointer (some ⟨p, 0, none⟩)] W (ResN p W (R u))) (hRb : ∀ u n v, R u = some (n, v) → v.size ≤ u.size) :
    Calls Tryd.prog 27 #[.pointer (some ⟨p, 0, none⟩)] w (ResN p w (rowsE1 R s)) := by
  have HP := hide (fun (t : ByteArray) (W : World) (ht : t.size ≤ s.size) (hk : KeepR p w W) (hr : Rd W p t) (hs : SGr r W) => row_any r p t R W hr (by omega) hs hrp hgp (fun u V hu hv hkv => hR u V (by omega) hv (hk.trans hkv)) hRb)
  have HBD := hide (fun t n t' (he : rowE R t = some (n, t')) => row_bd hRb he)
  have HPE := hide (show rowsE1 R s = (match rowE R s with | none => none | some (n, t) => match rowsL R (t.size + 1) [n] t with | none => none | some (l, u) => some (joinedE 3 l, u)) from rfl)
  have hpw := h.lt
  have hgw : 1 < w.heap.size := World.block_lt_of_cell? _ _ hS.1
  have hrw := hS.lt
  have hb0 : Below w.heap.size w (w.alloc (.cells (ndL 0 noSet (.slice none 0 0)).toArray 27)) := (Below.refl _ _).alloc (Nat.le_refl _) _
  obtain ⟨W0, hW0⟩ : ∃ W, w.alloc (.cells (ndL 0 noSet (.slice none 0 0)).toArray 27) = W := ⟨_, rfl⟩
  have k0 : Blk W0 w.heap.size 27 (ndL 0 noSet (.slice none 0 0)) := by rw [← hW0]; exact Blk.new _ _ _
  rw [hW0] at hb0
  obtain ⟨i0, hi, hz0, hz1, hz2⟩ := infoN_parts
  have HB0 := hide (show RwS r p w.heap.size w W0 [] s (.slice none 0 0) from ⟨h.below hb0, k0, RowN.nil _ _, hS.below hb0, KeepR.of hb0⟩)
  clear h hS hb0 k0 hR hRb
  go_enter Tryd.func27, Tryd.ntmps27
  go_wp2_with fail
  rw [show w.alloc (.cells #[.int .i64 0, .int .u64 0, .int .u64 0, .int .u64 0, .int .u64 0, .slice none 0 0] 27) = W0 from hW0]
  clear hW0
  obtain ⟨z2, hz2e⟩ : ∃ q, q = w.heap.size := ⟨_, rfl⟩
  rw [← hz2e] at HB0 ⊢
  have hpz : p < z2 := by omega
  have hgz : 1 < z2 := by omega
  have hrz : r < z2 := by omega
  have HZ2 := hide hz2e
  have hwz2 : w.heap.size ≤ z2 := by omega
  clear hz2e
  refine (HP.out s _ (Nat.le_refl _) HB0.out.keep HB0.out.rd HB0.out.sg).mono ?_; rintro e w4 hr
  rcases hr.cases with ⟨hx, rfl, h3⟩ | ⟨n, t, k, x0, x1, x2, x3, A, m, cap, hx, rfl, hn, h3, h4⟩
  · go_wp2
    exact ⟨rfl, by rw [HPE.out, hx]; exact ⟨rfl, HB0.out.keep.trans h3⟩⟩
  · have hts := HBD.out s n t hx
    rw [hx] at HPE
    dsimp only at HPE
    have hz2l := HB0.out.b2.lt
    have HB4 := hide (HB0.out.step h3 h4 hpz hgp hrp)
    have hw0z : W0.heap.size ≤ w4.heap.size := h4.size
    have hbl : Below w4.heap.size w4 (w4.alloc (.cells (ndL k [x0, x1, x2, x3] (.slice A m cap)).toArray 27)) := (Below.refl _ _).alloc (Nat.le_refl _) _
    have hN4 := (NdX.keep (Q := fun b => z2 + 1 ≤ b ∧ b ≠ w4.heap.size) (fun b hb hlt => ⟨by omega, by omega⟩) (Nat.le_refl _) (fun _ _ _ _ h => h) _ _ (NdX.of _ _ hn)).low hbl
    have HB1 := hide (show RwS r p z2 w (w4.alloc (.cells (ndL k [x0, x1, x2, x3] (.slice A m cap)).toArray 27)) [n] t (.slice (some ⟨w4.heap.size, 0, none⟩) 1 1) from
      ⟨HB4.out.rd.below hbl, HB4.out.b2.below hbl, RowN.one (Blk.new _ _ _) (by omega) hN4, HB4.out.sg.below hbl, HB4.out.keep.trans (KeepR.of hbl)⟩)
    clear hbl hN4 hn h3 h4 hr hx HB4 HB0
    obtain ⟨X, hX⟩ : ∃ X, rowsL R (t.size + 1) [n] t = X := ⟨_, rfl⟩
    rw [hX] at HPE
    have HXE := hide hX
    clear hX
    go_wp2_with fail
    rw [show w4.alloc (.cells #[.int .i64 k, .int .u64 (x0 : Int), .int .u64 (x1 : Int), .int .u64 (x2 : Int), .int .u64 (x3 : Int), .slice A m cap] 27) = w4.alloc (.cells (ndL k [x0, x1, x2, x3] (.slice A m cap)).toArray 27) from rfl]
    obtain ⟨w5, hw5⟩ : ∃ W, w4.alloc (.cells (ndL k [x0, x1, x2, x3] (.slice A m cap)).toArray 27) = W := ⟨_, rfl⟩
    rw [hw5] at HB1 ⊢
    clear hw5
    go_loopw [3] (fun v wr => ∃ (l : List Nd) (t : ByteArray) (f : Nat), t.size < f ∧ l.length + t.size ≤ s.size + 1 ∧ Hid (rowsL R f l t = X) ∧ Hid (RwS r p z2 w wr l t v)) (fun _ wr => sizeR wr p)
    case atStart => exact ⟨[n], t, t.size + 1, by omega, by simp; omega, HXE, HB1⟩
    case round =>
      clear HB1 HXE hts
      obtain ⟨l, t, f, hf, hlt, HXE, HB⟩ := hrel
      obtain ⟨f, rfl⟩ : ∃ g, f = g + 1 := ⟨f - 1, by omega⟩
      have hsr := sizeR_rd HB.out.rd
      have HST := HXE.out
      rw [rowsL] at HST
      go_wp2_with fail
      refine (skip_any p t 124 _ HB.out.rd (by omega)).mono ?_; rintro e w3 ⟨rfl, h1, h2⟩
      cases hb : isB t 124 with
      | true =>
        rw [if_pos hb] at HST
        rw [show skipS t 124 = t.extract 1 t.size from if_pos hb] at h1
        have ht0 : 0 < t.size := by
          have hb2 := hb
          unfold isB at hb2
          split at hb2
          · assumption
          · cases hb2
        have hes : (t.extract 1 t.size).size + 1 = t.size := by rw [ByteArray.size_extract]; omega
        have HB3 := hide (HB.out.step h1 h2 hpz hgp hrp)
        clear h1 h2 hb HB HXE
        · go_wp2_with fail
          refine (HP.out _ _ (by omega) HB3.out.keep HB3.out.rd HB3.out.sg).mono ?_; rintro e w4 hr
          rcases hr.cases with ⟨hx, rfl, h3⟩ | ⟨n, t', k, x0, x1, x2, x3, A, m, cap, hx, rfl, hn, h3, h4⟩
          · rw [hx] at HST
            have HNX := HST
            clear hr hx
            go_wp2
            exact ⟨rfl, by rw [HPE.out, ← HNX]; exact ⟨rfl, HB3.out.keep.trans h3⟩⟩
          · have hts := HBD.out _ n t' hx
            rw [hx] at HST
            dsimp only at HST
            have HXM := hide HST
            have HB4 := hide (HB3.out.step h3 h4 hpz hgp hrp)
            have hwz := HB3.out.b2.lt
            have HN4 := hide (NdX.keep (Q := fun b => z2 + 1 ≤ b ∧ some b ≠ u3.ownBlock) (fun b hb _ => ⟨by omega, fun e => by have := (HB3.out.row.own b e.symm).2; omega⟩) (Nat.le_refl _) (fun _ _ _ _ h => h) _ _ (NdX.of _ _ hn))
            clear hr hx h3 h4 hn HST HB3
            have hbl : Below w4.heap.size w4 (w4.alloc (.cells (ndL k [x0, x1, x2, x3] (.slice A m cap)).toArray 27)) := (Below.refl _ _).alloc (Nat.le_refl _) _
            have HBa := hide (HB4.out.low hbl)
            have HNa := hide (HN4.out.low hbl)
            obtain ⟨Cs, hc1, hc2, hc3, hc4⟩ := HBa.out.row
            have HC4 := hide hc4
            have hzz := HBa.out.b2.lt
            clear hbl hc4
            go_wp2_with (at_builtin; refine wpList_append_own_at _ rfl _ _ 25 rfl (z2 + 1) 27 i0 _ 6 64 Tryd.underlying25 hi hz0 hz1 hz2 (by rfl) (by decide) u3 l.length Cs.flatten rfl hc3 ⟨w4.heap.size, 0, none⟩ 1 1 (ndL k [x0, x1, x2, x3] (.slice A m cap)) rfl rfl (new_at w4 (ndL k [x0, x1, x2, x3] (.slice A m cap))) (NdX.one HNa.out) (by unfold maxLen; omega) (by omega) hzz ?_; intro v' w6 hown1 hgrow1 _ hat1)
            have HB6 := hide (HBa.out.app HZ2.out hpz hgz hrz hc1 hc2 HC4.out HNa.out hown1 hgrow1 hat1)
            clear hown1 hgrow1 hat1 HC4 hc1 hc2 hc3 HBa HNa
            have hs6 := sizeR_rd HB6.out.rd
            go_wp2
            go_roundw
            case rel => exact ⟨l ++ [n], t', f, by omega, by rw [List.length_append]; simp; omega, HXM, HB6⟩
            case measure => rw [hs6, hsr]; omega
      | false =>
        rw [if_neg (by rw [hb]; decide)] at HST
        rw [show skipS t 124 = t from if_neg (by rw [hb]; decide)] at h1
        have HB3 := hide (HB.out.step h1 h2 hpz hgp hrp)
        have HXM := hide HST
        clear h1 h2 hb HB HXE HST
        as_aux_lemma =>
          go_wp2_with fail
          obtain ⟨A, cap, rfl, hlc, hcap, hkids⟩ := HB3.out.row.kids
          have HJ := hide (joined_any (z2 + 1) 3 A l.length cap l w3 rfl hlc hcap (by omega) hkids)
          clear hlc hcap hkids
          go_wp2_with fail
          refine HJ.out.mono ?_; rintro e w9 ⟨cs, he9, hn, hb9⟩
          have hx9 := NdX.of _ _ hn
          obtain ⟨k, x0, x1, x2, x3, A9, m9, cap9, rfl, -, -⟩ := hx9.form
          have he9 : e = .returned (.agg #[.int .i64 k, .int .u64 (x0 : Int), .int .u64 (x1 : Int), .int .u64 (x2 : Int), .int .u64 (x3 : Int), .slice A9 m9 cap9]) := he9
          subst he9
          have HB9 := hide (HB3.out.low hb9)
          have HX9 := hide hx9
          clear hn hb9 hx9 HJ
          have bf := fun i => HB9.out.b2.frozen i
          have b0 := HB9.out.b2.cell (i := 0) rfl
          have b1 := HB9.out.b2.cell (i := 1) rfl
          have b2 := HB9.out.b2.cell (i := 2) rfl
          have b3 := HB9.out.b2.cell (i := 3) rfl
          have b4 := HB9.out.b2.cell (i := 4) rfl
          have b5 := HB9.out.b2.cell (i := 5) rfl
          go_wp2
          refine bodyPost_ret (results_cell_row rfl _ _ z2 27 (ndL k [x0, x1, x2, x3] (.slice A9 m9 cap9)).toArray (0, 0) _ rfl (nd_put HB9.out.b2 k x0 x1 x2 x3 (.slice A9 m9 cap9)) Tryd.underlying27 rfl (by kernel_rfl)) rfl ?_
          have hk := nd_keep w9 z2 k x0 x1 x2 x3 (.slice A9 m9 cap9)
          rw [HPE.out, ← HXM.out]
          exact ⟨_, rfl, NdX.at (fun b hb => by omega) _ _ (HX9.out.keepR (fun b hb => by omega) hk), HB9.out.rd.keepZ hk (by omega), HB9.out.keep.own hk (by omega)⟩
theorem rows_any (r p : Nat) (hrp : r ≠ p) (hgp : 1 ≠ p) : ∀ (f : Nat) (s : ByteArray) (w : World), s.size < f → Rd w p s → s.size ≤ 100000 → SGr r w →
    Calls Tryd.prog 27 #[.pointer (some ⟨p, 0, none⟩)] w (ResN p w (rowsE f s))
  | 0, _, _, hf, _, _, _ => absurd hf (by omega)
  | f + 1, s, w, hf, h, hm, hS => by
    rw [rowsE]
    exact rows_step r p s (rowsE f) w h hm hS hrp hgp (fun u W hu hr hk => rows_any r p hrp hgp f u W (by omega) hr (by omega) (hS.keepR hk hgp hrp)) (rowsE_bd f)
end Go.Proofs.YtfamoikmfbpigaaDoor
