/- limnerlaw10.many. -/
import Derived.Test.YtfamoikmfbpigaaDoorFref
namespace Go.Proofs.YtfamoikmfbpigaaDoor
open Go.RowKit

/-- How many nodes, as far as that is not above 300; so deep at most. -/
def manyE : Nat → Nd → Nat
  | 0, _ => 301
  | d + 1, .mk _ _ L => L.foldl (fun k x => if k ≤ 300 then k + manyE d x else k) 1
def manyL (d : Nat) (L : List Nd) (k : Nat) : Nat := L.foldl (fun k x => if k ≤ 300 then k + manyE d x else k) k
theorem manyL_stop (d : Nat) : ∀ (L : List Nd) (k : Nat), 300 < k → manyL d L k = k
  | [], _, _ => rfl
  | x :: l, k, h => by
    unfold manyL
    rw [List.foldl_cons, if_neg (by omega)]
    exact manyL_stop d l k h
theorem manyL_cons {d : Nat} {L : List Nd} {j k : Nat} {x : Nd} (h : L[j]? = some x) (hk : k ≤ 300) : manyL d (L.drop j) k = manyL d (L.drop (j + 1)) (k + manyE d x) := by
  obtain ⟨hj, hx⟩ := List.getElem?_eq_some_iff.1 h
  rw [List.drop_eq_getElem_cons hj, hx]
  unfold manyL
  rw [List.foldl_cons, if_pos hk]
theorem many_le : ∀ (d : Nat) (n : Nd), manyE d n ≤ 301 + 301 * d
  | 0, _ => by simp [manyE]
  | d + 1, .mk _ _ L => by
    unfold manyE
    have key : ∀ (L : List Nd) (k : Nat), k ≤ 301 + 301 * (d + 1) → L.foldl (fun k x => if k ≤ 300 then k + manyE d x else k) k ≤ 301 + 301 * (d + 1) := by
      intro L
      induction L with
      | nil => intro k hk; exact hk
      | cons x l ih =>
        intro k hk
        rw [List.foldl_cons]
        apply ih
        have := many_le d x
        split <;> omega
    exact key L 1 (by omega)
set_option maxHeartbeats 4000000 in
set_option maxRecDepth 100000 in
theorem many_any : ∀ (d : Nat) (n : Nd) (cs : List Value) (P : Nat → Prop) (w : World), d ≤ 1000 → NdX P w n cs →
    Calls Tryd.prog 15 #[.agg cs.toArray, .int .i64 (d : Int)] w (NatP (manyE d n) w)
  | d, .mk k S L, cs, P, w, hd, hn => by
    obtain ⟨x0, x1, x2, x3, A, cap, rfl, rfl, hw, hc, hcm, hkids⟩ := hn.parts
    have HK := hide hkids
    obtain ⟨m, hm0⟩ : ∃ m, L.length = m := ⟨_, rfl⟩
    have HM := hide hm0
    have HB0 := hide (show Below w.heap.size w (w.alloc (.cells (ndL k [x0, x1, x2, x3] (.slice A m cap)).toArray 27)) from (Below.refl _ _).alloc (Nat.le_refl _) _)
    have HBL := hide (Blk.new w 27 (ndL k [x0, x1, x2, x3] (.slice A m cap)))
    rw [hm0] at hc ⊢
    clear hn hkids hw hm0
    unfold maxLen at hcm
    rw [show (ndL k [x0, x1, x2, x3] (.slice A m cap)).toArray = #[.int .i64 k, .int .u64 (x0 : Int), .int .u64 (x1 : Int), .int .u64 (x2 : Int), .int .u64 (x3 : Int), .slice A m cap] from rfl]
    match d, hd with
    | 0, _ =>
      rw [show ((0 : Nat) : Int) = (0 : Int) from rfl]
      go_enter Tryd.func15, Tryd.ntmps15
      go_wp2
      rw [show w.alloc (.cells #[.int .i64 k, .int .u64 (x0 : Int), .int .u64 (x1 : Int), .int .u64 (x2 : Int), .int .u64 (x3 : Int), .slice A m cap] 27) = w.alloc (.cells (ndL k [x0, x1, x2, x3] (.slice A m cap)).toArray 27) from rfl]
      obtain ⟨W0, hW0⟩ : ∃ W, w.alloc (.cells (ndL k [x0, x1, x2, x3] (.slice A m cap)).toArray 27) = W := ⟨_, rfl⟩
      rw [hW0] at HBL HB0 ⊢
      clear hW0
      go_loopw [6] (fun iv wr => iv = .int .i64 0 ∧ Hid (Blk wr w.heap.size 27 (ndL k [x0, x1, x2, x3] (.slice A m cap))) ∧ Hid (Below w.heap.size w wr)) (fun iv _ => 0)
      case atStart => exact ⟨rfl, HBL, HB0⟩
      case round =>
        clear HBL HB0
        obtain ⟨rfl, HX, HB⟩ := hrel
        have a5 := HX.out.cell (i := 5) rfl
        by_cases h0 : (0 : Int) < (m : Int)
        all_goals (
          go_wp2
          go_ret
          exact NatP.mk rfl rfl HB.out)
    | d + 1, hd =>
      have IH := hide (fun (n : Nd) (cs : List Value) (W : World) (h2 : NdX P W n cs) => many_any d n cs P W (by omega) h2)
      have HT0 := hide (show manyE (d + 1) (.mk k [x0, x1, x2, x3] L) = manyL d (L.drop 0) 1 from rfl)
      obtain ⟨T, hT⟩ : ∃ T, manyE (d + 1) (.mk k [x0, x1, x2, x3] L) = T := ⟨_, rfl⟩
      rw [hT] at HT0 ⊢
      rw [show ((d + 1 : Nat) : Int) = (d : Int) + 1 from rfl]
      have hd0 : (0 : Int) < (d : Int) + 1 := by omega
      have hd1 : (((d : Int) + 1) == 0) = false := by simp; omega
      clear hT
      go_enter Tryd.func15, Tryd.ntmps15
      go_wp2
      rw [show w.alloc (.cells #[.int .i64 k, .int .u64 (x0 : Int), .int .u64 (x1 : Int), .int .u64 (x2 : Int), .int .u64 (x3 : Int), .slice A m cap] 27) = w.alloc (.cells (ndL k [x0, x1, x2, x3] (.slice A m cap)).toArray 27) from rfl]
      obtain ⟨W0, hW0⟩ : ∃ W, w.alloc (.cells (ndL k [x0, x1, x2, x3] (.slice A m cap)).toArray 27) = W := ⟨_, rfl⟩
      rw [hW0] at HBL HB0 ⊢
      clear hW0
      go_loopw [5, 6] (fun kv iv wr => ∃ j t : Nat, iv = .int .i64 j ∧ kv = .int .i64 (t : Int) ∧ j ≤ m ∧ t ≤ 1000000 ∧ Hid (T = manyL d (L.drop j) t) ∧ Hid (Blk wr w.heap.size 27 (ndL k [x0, x1, x2, x3] (.slice A m cap))) ∧ Hid (Below w.heap.size w wr)) (fun _ iv _ => m - (intOf iv).toNat)
      case atStart => exact ⟨0, 1, rfl, rfl, by omega, by omega, HT0, HBL, HB0⟩
      case round =>
        clear HBL HB0 HT0
        obtain ⟨j, t, rfl, rfl, hj, ht, HT, HX, HB⟩ := hrel
        have a5 := HX.out.cell (i := 5) rfl
        by_cases hlt : j < m
        · by_cases h300 : t ≤ 300
          · obtain ⟨x, hx⟩ : ∃ x, L[j]? = some x := ⟨_, List.getElem?_eq_getElem (by rw [HM.out]; exact hlt)⟩
            obtain ⟨b, o, cx, rfl, hb, -, hcx, hnx⟩ := HK.out.get j x hx
            obtain ⟨kx, u0, u1, u2, u3, Ax, mx, capx, rfl, -, -⟩ := hnx.form
            have HCX := hide (fun (W : World) (hW : Below w.heap.size w W) i u (hu : (ndL kx [u0, u1, u2, u3] (.slice Ax mx capx))[i]? = some u) => show W.cell? ⟨b, o + j * 6 + i, none⟩ = some u from (hW.cell (p := ⟨b, o + j * 6 + i, none⟩) hb.2).trans (by have := hcx i u hu; rw [Nat.zero_add] at this; exact this))
            have HI := hide (fun (W : World) (hW : Below w.heap.size w W) => IH.out x _ W (hnx.low hW))
            have HST := hide (manyL_cons (d := d) hx h300)
            obtain ⟨dx, hdx⟩ : ∃ q, manyE d x = q := ⟨_, rfl⟩
            have hdb : dx ≤ 400000 := by rw [← hdx]; have := many_le d x; omega
            rw [hdx] at HI HST
            clear hx hcx hnx hdx
            have c0 : wr.cell? ⟨b, o + j * 6, none⟩ = some (.int .i64 kx) := HCX.out wr HB.out 0 _ rfl
            have c1 := HCX.out wr HB.out 1 _ rfl
            have c2 := HCX.out wr HB.out 2 _ rfl
            have c3 := HCX.out wr HB.out 3 _ rfl
            have c4 := HCX.out wr HB.out 4 _ rfl
            have c5 := HCX.out wr HB.out 5 _ rfl
            have hj0 : (0 : Int) ≤ (j : Int) := by omega
            have hj1 : (j : Int) < (m : Int) := by omega
            have ht1 : (t : Int) ≤ 300 := by omega
            go_wp2_with fail
            refine (HI.out _ HB.out).mono ?_; rintro e w9 ⟨rfl, hb9⟩
            have HX9 := hide (HX.out.below hb9)
            have HB9 := hide (HB.out.trans (hb9.mono HB.out.size))
            clear hb9 HX HB HI a5 c0 c1 c2 c3 c4 c5
            go_wp2
            go_roundw
            case rel => exact ⟨j + 1, t + dx, by go_num, by first | rfl | (congr 1; omega) | go_num, by omega, by omega, hide (by rw [HT.out, HST.out]), HX9, HB9⟩
            case measure => simp [intOf]; omega
          · have ht1 : ¬ (t : Int) ≤ 300 := by omega
            have hj1 : (j : Int) < (m : Int) := by omega
            have HR := hide (show T = t by rw [HT.out]; exact manyL_stop d _ _ (by omega))
            go_wp2
            go_ret
            exact NatP.mk (by rw [HR.out]) rfl HB.out
        · obtain rfl : j = m := by omega
          have HR := hide (show T = t by rw [HT.out, List.drop_of_length_le (by rw [HM.out]; exact Nat.le_refl _)]; rfl)
          go_wp2
          go_ret
          exact NatP.mk (by rw [HR.out]) rfl HB.out
end Go.Proofs.YtfamoikmfbpigaaDoor
