/- limnerlaw10.Ref, limnerref10.Deep, limnerlaw10.many. -/
import Derived.Test.YtfamoikmfbpigaaDoorFrow
import Derived.Test.YtfamoikmfbpigaaDoorFsame
namespace Go.Proofs.YtfamoikmfbpigaaDoor
open Go.RowKit

mutual
def deepE : Nd → Nat
  | .mk _ _ L => deepL L + 1
def deepL : List Nd → Nat
  | [] => 0
  | x :: l => max (deepE x) (deepL l)
end
theorem deepL_app : ∀ (l m : List Nd), deepL (l ++ m) = max (deepL l) (deepL m)
  | [], m => by simp [deepL]
  | x :: l, m => by rw [List.cons_append, deepL, deepL, deepL_app l m]; omega
theorem deepL_step {L : List Nd} {j : Nat} {x : Nd} (h : L[j]? = some x) : deepL (L.take (j + 1)) = max (deepL (L.take j)) (deepE x) := by
  rw [List.take_add_one, h, deepL_app]
  simp [deepL]
mutual
theorem deep_sz : ∀ (n : Nd), deepE n ≤ szN n
  | .mk _ _ L => by rw [deepE, szN]; have := deepL_sz L; omega
theorem deepL_sz : ∀ (L : List Nd), deepL L ≤ szL L
  | [] => by simp [deepL, szL]
  | x :: l => by rw [deepL, szL]; have := deep_sz x; have := deepL_sz l; omega
end
def NatP (k : Nat) (w : World) (e : Ending) (w' : World) : Prop := e = .returned (.int .i64 (k : Int)) ∧ Below w.heap.size w w'
theorem NatP.mk {k : Nat} {x : Int} {w w' : World} {e : Ending} (h : x = (k : Int)) (he : e = .returned (.int .i64 x)) (hb : Below w.heap.size w w') : NatP k w e w' := ⟨by rw [← h]; exact he, hb⟩
set_option maxHeartbeats 4000000 in
set_option maxRecDepth 100000 in
theorem deep_any : ∀ (f : Nat) (n : Nd) (cs : List Value) (P : Nat → Prop) (w : World), szN n < f → szN n ≤ 1000000 → NdX P w n cs →
    Calls Tryd.prog 32 #[.agg cs.toArray] w (NatP (deepE n) w)
  | 0, _, _, _, _, hf, _, _ => absurd hf (by omega)
  | f + 1, .mk k S L, cs, P, w, hf, hsz, hn => by
    obtain ⟨x0, x1, x2, x3, A, cap, rfl, rfl, hw, hc, hcm, hkids⟩ := hn.parts
    have IH := hide (fun (n : Nd) (cs : List Value) (W : World) (h1 : szN n < f) (h0 : szN n ≤ 1000000) (h2 : NdX P W n cs) => deep_any f n cs P W h1 h0 h2)
    have HK := hide hkids
    obtain ⟨m, hm0⟩ : ∃ m, L.length = m := ⟨_, rfl⟩
    have HM := hide hm0
    have hsl : szL L < 1000000 := by unfold szN at hsz; omega
    have HSL := hide hsl
    have HF := hide (show szL L < f by unfold szN at hf; omega)
    have HB0 := hide (show Below w.heap.size w (w.alloc (.cells (ndL k [x0, x1, x2, x3] (.slice A m cap)).toArray 33)) from (Below.refl _ _).alloc (Nat.le_refl _) _)
    have HBL := hide (Blk.new w 33 (ndL k [x0, x1, x2, x3] (.slice A m cap)))
    have HD := hide (show deepE (.mk k [x0, x1, x2, x3] L) = deepL L + 1 from by rw [deepE])
    rw [hm0] at hc ⊢
    clear hn hkids hw hf hm0 hsz hsl
    unfold maxLen at hcm
    rw [show (ndL k [x0, x1, x2, x3] (.slice A m cap)).toArray = #[.int .i64 k, .int .u64 (x0 : Int), .int .u64 (x1 : Int), .int .u64 (x2 : Int), .int .u64 (x3 : Int), .slice A m cap] from rfl]
    go_enter Tryd.func32, Tryd.ntmps32
    go_wp2
    rw [show w.alloc (.cells #[.int .i64 k, .int .u64 (x0 : Int), .int .u64 (x1 : Int), .int .u64 (x2 : Int), .int .u64 (x3 : Int), .slice A m cap] 33) = w.alloc (.cells (ndL k [x0, x1, x2, x3] (.slice A m cap)).toArray 33) from rfl]
    obtain ⟨W0, hW0⟩ : ∃ W, w.alloc (.cells (ndL k [x0, x1, x2, x3] (.slice A m cap)).toArray 33) = W := ⟨_, rfl⟩
    rw [hW0] at HBL HB0 ⊢
    clear hW0
    go_loopw [3, 4] (fun kv iv wr => ∃ j t : Nat, iv = .int .i64 j ∧ kv = .int .i64 (t : Int) ∧ j ≤ m ∧ t ≤ 1000000 ∧ Hid (deepL (L.take j) = t) ∧ Hid (Blk wr w.heap.size 33 (ndL k [x0, x1, x2, x3] (.slice A m cap))) ∧ Hid (Below w.heap.size w wr)) (fun _ iv _ => m - (intOf iv).toNat)
    case atStart => exact ⟨0, 0, rfl, rfl, by omega, by omega, hide (by simp [deepL]), HBL, HB0⟩
    case round =>
      clear HBL HB0
      obtain ⟨j, t, rfl, rfl, hj, ht, HT, HX, HB⟩ := hrel
      have a5 := HX.out.cell (i := 5) rfl
      by_cases hlt : j < m
      · obtain ⟨x, hx⟩ : ∃ x, L[j]? = some x := ⟨_, List.getElem?_eq_getElem (by rw [HM.out]; exact hlt)⟩
        obtain ⟨b, o, cx, rfl, hb, -, hcx, hnx⟩ := HK.out.get j x hx
        obtain ⟨kx, u0, u1, u2, u3, Ax, mx, capx, rfl, -, -⟩ := hnx.form
        have HCX := hide (fun (W : World) (hW : Below w.heap.size w W) i u (hu : (ndL kx [u0, u1, u2, u3] (.slice Ax mx capx))[i]? = some u) => show W.cell? ⟨b, o + j * 6 + i, none⟩ = some u from (hW.cell (p := ⟨b, o + j * 6 + i, none⟩) hb.2).trans (by have := hcx i u hu; rw [Nat.zero_add] at this; exact this))
        have hsx0 := szL_at hx
        have hsx : szN x < f := Nat.lt_of_le_of_lt hsx0 HF.out
        have hsx1 : szN x ≤ 1000000 := by have := HSL.out; omega
        have HI := hide (fun (W : World) (hW : Below w.heap.size w W) => IH.out x _ W hsx hsx1 (hnx.low hW))
        have HST := hide (deepL_step hx)
        obtain ⟨dx, hdx⟩ : ∃ d, deepE x = d := ⟨_, rfl⟩
        have hdb : dx ≤ 1000000 := by rw [← hdx]; exact Nat.le_trans (deep_sz x) hsx1
        rw [hdx] at HI HST
        clear hx hcx hnx hsx hsx0 hsx1 hdx
        have c0 : wr.cell? ⟨b, o + j * 6, none⟩ = some (.int .i64 kx) := HCX.out wr HB.out 0 _ rfl
        have c1 := HCX.out wr HB.out 1 _ rfl
        have c2 := HCX.out wr HB.out 2 _ rfl
        have c3 := HCX.out wr HB.out 3 _ rfl
        have c4 := HCX.out wr HB.out 4 _ rfl
        have c5 := HCX.out wr HB.out 5 _ rfl
        have hj0 : (0 : Int) ≤ (j : Int) := by omega
        have hj1 : (j : Int) < (m : Int) := by omega
        go_wp2_with fail
        refine (HI.out _ HB.out).mono ?_; rintro e w9 ⟨rfl, hb9⟩
        have HX9 := hide (HX.out.below hb9)
        have HB9 := hide (HB.out.trans (hb9.mono HB.out.size))
        clear hb9 HX HB HI a5 c0 c1 c2 c3 c4 c5
        go_wp2
        go_roundw
        case rel => exact ⟨j + 1, max t dx, by go_num, by congr 1; omega, by omega, by omega, hide (by rw [HST.out, HT.out]), HX9, HB9⟩
        case measure => simp [intOf]; omega
      · obtain rfl : j = m := by omega
        have HR := hide (show deepE (.mk k [x0, x1, x2, x3] L) = t + 1 by rw [HD.out, ← HT.out, List.take_of_length_le (by rw [HM.out]; exact Nat.le_refl _)])
        go_wp2
        go_ret
        exact NatP.mk (by rw [HR.out]; omega) rfl HB.out
end Go.Proofs.YtfamoikmfbpigaaDoor
