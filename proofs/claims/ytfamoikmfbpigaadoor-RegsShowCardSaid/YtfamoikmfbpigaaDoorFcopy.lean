/- limnerlaw10.Ref. -/
import Derived.Test.YtfamoikmfbpigaaDoorFref
namespace Go.Proofs.YtfamoikmfbpigaaDoor
open Go.RowKit

/-- What Ref's three boxes and its row hold. -/
structure RfS (w W : World) (k : Int) (S : List Nat) (sv v : Value) (L : List Nd) : Prop where
  b1 : Blk W w.heap.size 27 (ndL k S sv)
  b2 : Blk W (w.heap.size + 1) 33 (ndL 0 noSet (.slice none 0 0))
  b3 : Blk W (w.heap.size + 1 + 1) 33 (ndL k S v)
  row : RowM W (w.heap.size + 1 + 1 + 1) v L
  below : Below w.heap.size w W
theorem RfS.low {w W V : World} {k : Int} {S : List Nat} {sv v : Value} {L : List Nd} (h : RfS w W k S sv v L) (hb : Below W.heap.size W V) : RfS w V k S sv v L :=
  ⟨h.b1.below hb, h.b2.below hb, h.b3.below hb, h.row.below hb, h.below.trans (hb.mono h.below.size)⟩
theorem rf_new (w : World) (k : Int) (S : List Nat) (sv : Value) : RfS w (((w.alloc (.cells (ndL k S sv).toArray 27)).alloc (.cells (ndL 0 noSet (.slice none 0 0)).toArray 33)).alloc (.cells (ndL k S (.slice none 0 0)).toArray 33)) k S sv (.slice none 0 0) [] := by
  have h := two_box w 27 33 (ndL k S sv) (ndL 0 noSet (.slice none 0 0))
  obtain ⟨h1, h2, h3⟩ := h
  obtain ⟨W1, hW1⟩ : ∃ W, (w.alloc (.cells (ndL k S sv).toArray 27)).alloc (.cells (ndL 0 noSet (.slice none 0 0)).toArray 33) = W := ⟨_, rfl⟩
  have hs : W1.heap.size = w.heap.size + 1 + 1 := by rw [← hW1]; simp
  rw [hW1] at h1 h2 h3 ⊢
  refine ⟨h1.alloc _, h2.alloc _, ?_, RowM.nil _ _, h3.alloc h3.size _⟩
  have := Blk.new W1 33 (ndL k S (.slice none 0 0))
  rw [hs] at this
  exact this
theorem rf_set {w W : World} {k : Int} {x0 x1 x2 x3 : Nat} {sv v v' : Value} {L : List Nd} (h1 : Blk W w.heap.size 27 (ndL k [x0, x1, x2, x3] sv)) (h2 : Blk W (w.heap.size + 1) 33 (ndL 0 noSet (.slice none 0 0))) (h3 : Blk W (w.heap.size + 1 + 1) 33 (ndL k [x0, x1, x2, x3] v)) (h4 : Below w.heap.size w W) (h5 : RowM W (w.heap.size + 1 + 1 + 1) v' L) :
    RfS w (W.setCell ⟨w.heap.size + 1 + 1, 5, none⟩ v') k [x0, x1, x2, x3] sv v' L :=
  ⟨h1.far (by simp; omega) _, h2.far (by simp) _, h3.set 5 _, h5.keep (by unfold World.setCell; simp) (fun b hb _ => Below.heap_setCell _ _ _ _ (by simp; omega)), h4.setCell (p := ⟨w.heap.size + 1 + 1, 5, none⟩) (by simp; omega) _⟩
set_option maxHeartbeats 4000000 in
set_option maxRecDepth 100000 in
theorem ref_any : ∀ (f : Nat) (n : Nd) (cs : List Value) (P : Nat → Prop) (w : World), szN n < f → szN n ≤ 100000 → NdX P w n cs →
    Calls Tryd.prog 13 #[.agg cs.toArray] w fun e w' => ∃ v, e = .returned v ∧ (∃ cs', v = .agg cs'.toArray ∧ NdAt w.heap.size w' n cs') ∧ Below w.heap.size w w'
  | 0, _, _, _, _, hf, _, _ => absurd hf (by omega)
  | f + 1, .mk k S L, cs, P, w, hf, hsz, hn => by
    obtain ⟨x0, x1, x2, x3, A, cap, rfl, rfl, hw, hc, hcm, hkids⟩ := hn.parts
    have IH := hide (fun (n : Nd) (cs : List Value) (W : World) (h1 : szN n < f) (h0 : szN n ≤ 100000) (h2 : NdX P W n cs) => ref_any f n cs P W h1 h0 h2)
    have HW4 := hide hw
    have HK := hide hkids
    obtain ⟨m, hm0⟩ : ∃ m, L.length = m := ⟨_, rfl⟩
    have HM := hide hm0
    have HSL := hide (show szL L < 100000 by unfold szN at hsz; omega)
    have HF := hide (show szL L < f by unfold szN at hf; omega)
    have HML := hide (show m ≤ 100000 by
      have key : ∀ L : List Nd, L.length ≤ szL L := fun L => by
        induction L with
        | nil => simp
        | cons x l ih =>
          unfold szL
          have : 1 ≤ szN x := by cases x; unfold szN; omega
          simp; omega
      have := key L
      have := HSL.out
      omega)
    rw [hm0] at hc ⊢
    have HB0 := hide (rf_new w k [x0, x1, x2, x3] (.slice A m cap))
    clear hn hkids hw hf hm0 hsz
    unfold maxLen at hcm
    rw [show (ndL k [x0, x1, x2, x3] (.slice A m cap)).toArray = #[.int .i64 k, .int .u64 (x0 : Int), .int .u64 (x1 : Int), .int .u64 (x2 : Int), .int .u64 (x3 : Int), .slice A m cap] from rfl]
    go_enter Tryd.func13, Tryd.ntmps13
    go_wp2
    rw [show ((w.alloc (.cells #[.int .i64 k, .int .u64 (x0 : Int), .int .u64 (x1 : Int), .int .u64 (x2 : Int), .int .u64 (x3 : Int), .slice A m cap] 27)).alloc (.cells #[.int .i64 0, .int .u64 0, .int .u64 0, .int .u64 0, .int .u64 0, .slice none 0 0] 33)).alloc (.cells #[.int .i64 k, .int .u64 (x0 : Int), .int .u64 (x1 : Int), .int .u64 (x2 : Int), .int .u64 (x3 : Int), .slice none 0 0] 33) = ((w.alloc (.cells (ndL k [x0, x1, x2, x3] (.slice A m cap)).toArray 27)).alloc (.cells (ndL 0 noSet (.slice none 0 0)).toArray 33)).alloc (.cells (ndL k [x0, x1, x2, x3] (.slice none 0 0)).toArray 33) from rfl]
    obtain ⟨W0, hW0⟩ : ∃ W, ((w.alloc (.cells (ndL k [x0, x1, x2, x3] (.slice A m cap)).toArray 27)).alloc (.cells (ndL 0 noSet (.slice none 0 0)).toArray 33)).alloc (.cells (ndL k [x0, x1, x2, x3] (.slice none 0 0)).toArray 33) = W := ⟨_, rfl⟩
    rw [hW0] at HB0 ⊢
    clear hW0
    go_loopw [4] (fun iv wr => ∃ (j : Nat) (A' : Option Addr) (cap' : Nat), iv = .int .i64 j ∧ j ≤ m ∧ cap' ≤ maxLen ∧ Hid (RfS w wr k [x0, x1, x2, x3] (.slice A m cap) (.slice A' j cap') (L.take j))) (fun iv _ => m - (intOf iv).toNat)
    case atStart => exact ⟨0, none, 0, rfl, by omega, by unfold maxLen; omega, hide (by rw [List.take_zero]; exact HB0.out)⟩
    case round =>
      clear HB0
      obtain ⟨j, A', cap', rfl, hj, hcm', HB⟩ := hrel
      have a5 := HB.out.b1.cell (i := 5) rfl
      have b5 := HB.out.b3.cell (i := 5) rfl
      have bf := fun i => HB.out.b3.frozen i
      by_cases hlt : j < m
      · obtain ⟨x, hx⟩ : ∃ x, L[j]? = some x := ⟨_, List.getElem?_eq_getElem (by rw [HM.out]; exact hlt)⟩
        obtain ⟨b, o, cx, rfl, hb, -, hcx, hnx⟩ := HK.out.get j x hx
        obtain ⟨kx, u0, u1, u2, u3, Ax, mx, capx, rfl, -, -⟩ := hnx.form
        have HCX := hide (fun (W : World) (hW : Below w.heap.size w W) i u (hu : (ndL kx [u0, u1, u2, u3] (.slice Ax mx capx))[i]? = some u) => show W.cell? ⟨b, o + j * 6 + i, none⟩ = some u from (hW.cell (p := ⟨b, o + j * 6 + i, none⟩) hb.2).trans (by have := hcx i u hu; rw [Nat.zero_add] at this; exact this))
        have hsx0 := szL_at hx
        have hsx : szN x < f := Nat.lt_of_le_of_lt hsx0 HF.out
        have hsx1 : szN x ≤ 100000 := by have := HSL.out; omega
        have HI := hide (fun (W : World) (hW : Below w.heap.size w W) => IH.out x _ W hsx hsx1 (hnx.low hW))
        have HST := hide (show L.take (j + 1) = L.take j ++ [x] by rw [List.take_add_one, hx]; rfl)
        have hln : (L.take j).length = j := by rw [List.length_take, HM.out]; omega
        have HLN := hide hln
        have hjm : j ≤ 1000000 := by have := HML.out; omega
        clear hx hcx hnx hsx hsx0 hsx1 hln
        have c0 : wr.cell? ⟨b, o + j * 6, none⟩ = some (.int .i64 kx) := HCX.out wr HB.out.below 0 _ rfl
        have c1 := HCX.out wr HB.out.below 1 _ rfl
        have c2 := HCX.out wr HB.out.below 2 _ rfl
        have c3 := HCX.out wr HB.out.below 3 _ rfl
        have c4 := HCX.out wr HB.out.below 4 _ rfl
        have c5 := HCX.out wr HB.out.below 5 _ rfl
        have hj0 : (0 : Int) ≤ (j : Int) := by omega
        have hj1 : (j : Int) < (m : Int) := by omega
        have HD := hide (HB.out.low (Below.drew (Below.refl wr.heap.size wr)))
        go_wp2
        have hz3 := HB.out.b3.lt
        go_region_law (first
          | (refine step_fn1 rfl 13 _ Tryd.func13 (by decide) (by simp [Tryd.f13]) (.tmp 23) _ rfl (.agg #[.int .i64 kx, .int .u64 (u0 : Int), .int .u64 (u1 : Int), .int .u64 (u2 : Int), .int .u64 (u3 : Int), .slice Ax mx capx]) (by simp [Act.eval, Act.put]) _ (HI.out wr.drew HD.out.below) ?_; rintro v4 w4 ⟨⟨cy, hv4, hn4⟩, hb4⟩; have hx4 := NdX.of _ _ hn4; obtain ⟨ky, y0, y1, y2, y3, Ay, my, capy, rfl, -, -⟩ := hx4.form; replace hv4 : v4 = .agg #[.int .i64 ky, .int .u64 (y0 : Int), .int .u64 (y1 : Int), .int .u64 (y2 : Int), .int .u64 (y3 : Int), .slice Ay my capy] := hv4; subst hv4; have HB4 := hide (HD.out.low hb4); have q4 := HB4.out.b3.cell (i := 5) rfl; have hbl := (Below.refl w4.heap.size w4).alloc (Nat.le_refl _) (.cells #[.int .i64 ky, .int .u64 (y0 : Int), .int .u64 (y1 : Int), .int .u64 (y2 : Int), .int .u64 (y3 : Int), .slice Ay my capy] 33); have HB5 := hide (HB4.out.low hbl); have q5 := HB5.out.b3.cell (i := 5) rfl; have hz5 := HB5.out.b3.lt; have HN5 := hide ((NdX.keep (Q := fun c => w.heap.size + 1 + 1 + 1 ≤ c ∧ some c ≠ (Value.slice A' j cap').ownBlock) (fun c hc _ => ⟨by have : wr.drew.heap.size = wr.heap.size := rfl; omega, fun e => by have := (HB.out.row.own c e.symm).2; have : wr.drew.heap.size = wr.heap.size := rfl; omega⟩) (Nat.le_refl _) (fun _ _ _ _ h => h) _ _ hx4).low hbl); have HC5 := hide (Blk.new w4 33 (ndL ky [y0, y1, y2, y3] (.slice Ay my capy))); clear hb4 hn4 hx4 hbl)
          | (refine step_appM (by rfl) (.tmp 18) (.tmp 25) (by rfl) (w.heap.size + 1 + 1 + 1) (by omega) (.slice A' j cap') (L.take j) x w4.heap.size (ndL ky [y0, y1, y2, y3] (.slice Ay my capy)) (by rfl) (by rfl) HB5.out.row HC5.out HN5.out (by rw [HLN.out]; omega) ?_; intro v6 w6 ho6 hb6; obtain ⟨A6, c6, hv6, hc6, hm6, -⟩ := ho6.kids; rw [List.length_append, HLN.out] at hv6; subst hv6; have HB6 := hide (show Blk w6 w.heap.size 27 (ndL k [x0, x1, x2, x3] (.slice (some ⟨b, o, none⟩) m cap)) ∧ Blk w6 (w.heap.size + 1) 33 (ndL 0 noSet (.slice none 0 0)) ∧ Blk w6 (w.heap.size + 1 + 1) 33 (ndL k [x0, x1, x2, x3] (.slice A' j cap')) ∧ Below w.heap.size w w6 from ⟨HB5.out.b1.under hb6 (by omega), HB5.out.b2.under hb6 (by omega), HB5.out.b3.under hb6 (by omega), HB5.out.below.trans (hb6.mono (by omega))⟩); have HO6 := hide ho6; have HM6 := hide hm6; have q6 := HB6.out.2.2.1.cell (i := 5) rfl; have q6f := fun i => HB6.out.2.2.1.frozen i; clear ho6 hb6 hm6 hc6))
        all_goals go_wp2
        all_goals exact ⟨⟨j + 1, A6, c6, by go_num, by omega, HM6.out, hide (by rw [HST.out]; exact rf_set HB6.out.1 HB6.out.2.1 HB6.out.2.2.1 HB6.out.2.2.2 HO6.out)⟩, by simp [intOf]; omega⟩
      · obtain rfl : j = m := by omega
        have b0 := HB.out.b3.cell (i := 0) rfl
        have b1 := HB.out.b3.cell (i := 1) rfl
        have b2 := HB.out.b3.cell (i := 2) rfl
        have b3 := HB.out.b3.cell (i := 3) rfl
        have b4 := HB.out.b3.cell (i := 4) rfl
        have z0 := HB.out.b2.cell (i := 0) rfl
        have z1 := HB.out.b2.cell (i := 1) rfl
        have z2 := HB.out.b2.cell (i := 2) rfl
        have z3 := HB.out.b2.cell (i := 3) rfl
        have z4 := HB.out.b2.cell (i := 4) rfl
        have z5 := HB.out.b2.cell (i := 5) rfl
        have zf := fun i => HB.out.b2.frozen i
        have HLL := hide (show L.take j = L from List.take_of_length_le (by rw [HM.out]; exact Nat.le_refl _))
        go_wp2
        refine bodyPost_ret (results_cell_row rfl _ _ (w.heap.size + 1) 33 (ndL k [x0, x1, x2, x3] (.slice A' j cap')).toArray (0, 0) _ rfl (nd_putT HB.out.b2 k x0 x1 x2 x3 (.slice A' j cap')) Tryd.underlying33 rfl (by kernel_rfl)) rfl ?_
        have hk := nd_keep wr (w.heap.size + 1) k x0 x1 x2 x3 (.slice A' j cap')
        have hrow := HB.out.row
        rw [HLL.out] at hrow
        obtain ⟨A9, c9, e9, h91, h92, h93⟩ := hrow.kids
        injection e9 with e1 e2 e3
        subst e1 e3
        refine ⟨_, rfl, ⟨_, rfl, ?_⟩, BelowKeep HB.out.below hk (by omega)⟩
        unfold NdAt
        exact ⟨A', cap', by rw [HM.out], HW4.out, h91, h92, NdsX.at (fun b h => by omega) _ _ _ (h93.keepR (fun b hb => by omega) hk)⟩
end Go.Proofs.YtfamoikmfbpigaaDoor
