/- regs.Same. -/
import Derived.Test.YtfamoikmfbpigaaDoorFeq
import Derived.Test.YtfamoikmfbpigaaDoorEpiece
namespace Go.Proofs.YtfamoikmfbpigaaDoor
open Go.RowKit

mutual
/-- How many nodes a node has. -/
def szN : Nd → Nat
  | .mk _ _ kids => szL kids + 1
def szL : List Nd → Nat
  | [] => 0
  | x :: l => szN x + szL l
end
theorem szL_at : ∀ {l : List Nd} {j : Nat} {x : Nd}, l[j]? = some x → szN x ≤ szL l
  | [], _, _, h => by simp at h
  | y :: l, 0, x, h => by simp at h; subst h; unfold szL; omega
  | y :: l, j + 1, x, h => by
    have := szL_at (l := l) (j := j) (x := x) (by simpa using h)
    unfold szL; omega
theorem NdX.parts {P : Nat → Prop} {W : World} {k : Int} {S : List Nat} {kids : List Nd} {cs : List Value} (h : NdX P W (.mk k S kids) cs) : ∃ (x0 x1 x2 x3 : Nat) (A : Option Addr) (cap : Nat), S = [x0, x1, x2, x3] ∧ cs = ndL k [x0, x1, x2, x3] (.slice A kids.length cap) ∧ W64 [x0, x1, x2, x3] ∧ kids.length ≤ cap ∧ cap ≤ maxLen ∧ NdsX P W kids A 0 := by
  unfold NdX at h
  obtain ⟨A, cap, rfl, hw, h3, h4, h5⟩ := h
  obtain ⟨a, b, c, d, rfl⟩ := four hw.1
  exact ⟨a, b, c, d, A, cap, rfl, rfl, hw, h3, h4, h5⟩
/-- Two boxes behind one another. -/
theorem two_box (w : World) (t t' : TypeId) (cs ds : List Value) : Blk ((w.alloc (.cells cs.toArray t)).alloc (.cells ds.toArray t')) w.heap.size t cs ∧ Blk ((w.alloc (.cells cs.toArray t)).alloc (.cells ds.toArray t')) (w.heap.size + 1) t' ds ∧ Below w.heap.size w ((w.alloc (.cells cs.toArray t)).alloc (.cells ds.toArray t')) := by
  have e : (w.alloc (.cells cs.toArray t)).heap.size = w.heap.size + 1 := by simp
  refine ⟨(Blk.new _ _ _).alloc _, ?_, ((Below.refl _ _).alloc (Nat.le_refl _) _).alloc (by simp) _⟩
  have := Blk.new (w.alloc (.cells cs.toArray t)) t' ds
  rw [e] at this
  exact this
/-- What a comparison ends with. -/
def SameP (n m : Nd) (w : World) (e : Ending) (w' : World) : Prop := ∃ b, e = .returned (.bool b) ∧ (b = true ↔ n = m) ∧ Below w.heap.size w w'
theorem SameP.no {n m : Nd} {w w' : World} {e : Ending} (he : e = .returned (.bool false)) (h : n ≠ m) (hb : Below w.heap.size w w') : SameP n m w e w' := ⟨false, he, by simpa using h, hb⟩
theorem SameP.yes {n m : Nd} {w w' : World} {e : Ending} (he : e = .returned (.bool true)) (h : n = m) (hb : Below w.heap.size w w') : SameP n m w e w' := ⟨true, he, by simpa using h, hb⟩
theorem mk_ne_k {k k' : Int} {S S' : List Nat} {L L' : List Nd} (h : k ≠ k') : Nd.mk k S L ≠ Nd.mk k' S' L' := fun e => by injection e; exact h ‹_›
theorem mk_ne_s {k k' : Int} {S S' : List Nat} {L L' : List Nd} (h : S ≠ S') : Nd.mk k S L ≠ Nd.mk k' S' L' := fun e => by injection e; exact h ‹_›
theorem mk_ne_l {k k' : Int} {S S' : List Nat} {L L' : List Nd} (h : L ≠ L') : Nd.mk k S L ≠ Nd.mk k' S' L' := fun e => by injection e; exact h ‹_›
set_option maxHeartbeats 4000000 in
set_option maxRecDepth 100000 in
theorem same_any : ∀ (f : Nat) (n m : Nd) (cs ds : List Value) (P Q : Nat → Prop) (w : World), szN n < f → NdX P w n cs → NdX Q w m ds →
    Calls Tryd.prog 18 #[.agg cs.toArray, .agg ds.toArray] w (SameP n m w)
  | 0, _, _, _, _, _, _, _, hf, _, _ => absurd hf (by omega)
  | f + 1, .mk k S L, .mk k' S' L', cs, ds, P, Q, w, hf, hn, hm => by
    obtain ⟨x0, x1, x2, x3, A, cap, rfl, rfl, hw, hc, hcm, hkids⟩ := hn.parts
    obtain ⟨y0, y1, y2, y3, A', cap', rfl, rfl, hw', hc', hcm', hkids'⟩ := hm.parts
    have IH := hide (fun (n m : Nd) (cs ds : List Value) (W : World) (h1 : szN n < f) (h2 : NdX P W n cs) (h3 : NdX Q W m ds) => same_any f n m cs ds P Q W h1 h2 h3)
    have HK := hide hkids
    have HK' := hide hkids'
    obtain ⟨m, hm0⟩ : ∃ m, L.length = m := ⟨_, rfl⟩
    obtain ⟨m', hm0'⟩ : ∃ m, L'.length = m := ⟨_, rfl⟩
    have HM := hide hm0
    have HM' := hide hm0'
    have HF := hide (show szL L < f by unfold szN at hf; omega)
    rw [hm0] at hc ⊢
    rw [hm0'] at hc' ⊢
    have HBX := hide (two_box w 27 27 (ndL k [x0, x1, x2, x3] (.slice A m cap)) (ndL k' [y0, y1, y2, y3] (.slice A' m' cap')))
    clear hn hm hkids hkids' hw hw' hm0 hm0' hf
    unfold maxLen at hcm hcm'
    rw [show (ndL k [x0, x1, x2, x3] (.slice A m cap)).toArray = #[.int .i64 k, .int .u64 (x0 : Int), .int .u64 (x1 : Int), .int .u64 (x2 : Int), .int .u64 (x3 : Int), .slice A m cap] from rfl, show (ndL k' [y0, y1, y2, y3] (.slice A' m' cap')).toArray = #[.int .i64 k', .int .u64 (y0 : Int), .int .u64 (y1 : Int), .int .u64 (y2 : Int), .int .u64 (y3 : Int), .slice A' m' cap'] from rfl]
    by_cases hk : k = k'
    case neg =>
      have HR := hide (mk_ne_k (S := [x0, x1, x2, x3]) (S' := [y0, y1, y2, y3]) (L := L) (L' := L') hk)
      have q0 : (k != k') = true := by simpa using hk
      clear hk
      go_enter Tryd.func18, Tryd.ntmps18
      go_wp2
      go_ret
      exact SameP.no rfl HR.out HBX.out.2.2
    subst hk
    by_cases hs : [x0, x1, x2, x3] = [y0, y1, y2, y3]
    case neg =>
      have HR := hide (mk_ne_s (k := k) (k' := k) (L := L) (L' := L') hs)
      have q1 := eq4_ne hs
      clear hs
      go_enter Tryd.func18, Tryd.ntmps18
      go_wp2
      go_ret
      exact SameP.no rfl HR.out HBX.out.2.2
    injection hs with e0 e1; injection e1 with e1 e2; injection e2 with e2 e3; injection e3 with e3 _
    subst e0 e1 e2 e3
    have q1 := eq4_same x0 x1 x2 x3
    by_cases hmm : m = m'
    case neg =>
      have HR := hide (mk_ne_l (k := k) (k' := k) (S := [x0, x1, x2, x3]) (S' := [x0, x1, x2, x3]) (L := L) (L' := L') (fun e => hmm (by rw [← HM.out, ← HM'.out, e])))
      have q2 : ((m : Int) != (m' : Int)) = true := by simp; omega
      clear hmm
      go_enter Tryd.func18, Tryd.ntmps18
      go_wp2
      go_ret
      exact SameP.no rfl HR.out HBX.out.2.2
    subst hmm
    go_enter Tryd.func18, Tryd.ntmps18
    go_wp2
    rw [show (w.alloc (.cells #[.int .i64 k, .int .u64 (x0 : Int), .int .u64 (x1 : Int), .int .u64 (x2 : Int), .int .u64 (x3 : Int), .slice A m cap] 27)).alloc (.cells #[.int .i64 k, .int .u64 (x0 : Int), .int .u64 (x1 : Int), .int .u64 (x2 : Int), .int .u64 (x3 : Int), .slice A' m cap'] 27) = (w.alloc (.cells (ndL k [x0, x1, x2, x3] (.slice A m cap)).toArray 27)).alloc (.cells (ndL k [x0, x1, x2, x3] (.slice A' m cap')).toArray 27) from rfl]
    obtain ⟨W0, hW0⟩ : ∃ W, (w.alloc (.cells (ndL k [x0, x1, x2, x3] (.slice A m cap)).toArray 27)).alloc (.cells (ndL k [x0, x1, x2, x3] (.slice A' m cap')).toArray 27) = W := ⟨_, rfl⟩
    rw [hW0] at HBX ⊢
    clear hW0
    have HB0 := hide HBX.out.2.2
    have HX := hide HBX.out.1
    have HY := hide HBX.out.2.1
    clear HBX
    go_loopw [30] (fun iv wr => ∃ j : Nat, iv = .int .i64 j ∧ j ≤ m ∧ Hid (∀ i, i < j → L[i]? = L'[i]?) ∧ Hid (Blk wr w.heap.size 27 (ndL k [x0, x1, x2, x3] (.slice A m cap))) ∧ Hid (Blk wr (w.heap.size + 1) 27 (ndL k [x0, x1, x2, x3] (.slice A' m cap'))) ∧ Hid (Below w.heap.size w wr)) (fun iv _ => m - (intOf iv).toNat)
    case atStart => exact ⟨0, rfl, by omega, hide (fun i h => absurd h (by omega)), HX, HY, HB0⟩
    case round =>
      clear HX HY HB0
      obtain ⟨j, rfl, hj, HE, HX, HY, HB⟩ := hrel
      by_cases hlt : j < m
      · obtain ⟨x, hx⟩ : ∃ x, L[j]? = some x := ⟨_, List.getElem?_eq_getElem (by rw [HM.out]; exact hlt)⟩
        obtain ⟨y, hy⟩ : ∃ y, L'[j]? = some y := ⟨_, List.getElem?_eq_getElem (by rw [HM'.out]; exact hlt)⟩
        obtain ⟨b, o, cx, rfl, hb, -, hcx, hnx⟩ := HK.out.get j x hx
        obtain ⟨b', o', cy, rfl, hb', -, hcy, hny⟩ := HK'.out.get j y hy
        obtain ⟨kx, u0, u1, u2, u3, Ax, mx, capx, rfl, -, -⟩ := hnx.form
        obtain ⟨ky, v0, v1, v2, v3, Ay, my, capy, rfl, -, -⟩ := hny.form
        have HCX := hide (fun (W : World) (hW : Below w.heap.size w W) i u (hu : (ndL kx [u0, u1, u2, u3] (.slice Ax mx capx))[i]? = some u) => show W.cell? ⟨b, o + j * 6 + i, none⟩ = some u from (hW.cell (p := ⟨b, o + j * 6 + i, none⟩) hb.2).trans (by have := hcx i u hu; rw [Nat.zero_add] at this; exact this))
        have HCY := hide (fun (W : World) (hW : Below w.heap.size w W) i u (hu : (ndL ky [v0, v1, v2, v3] (.slice Ay my capy))[i]? = some u) => show W.cell? ⟨b', o' + j * 6 + i, none⟩ = some u from (hW.cell (p := ⟨b', o' + j * 6 + i, none⟩) hb'.2).trans (by have := hcy i u hu; rw [Nat.zero_add] at this; exact this))
        have hsx : szN x < f := Nat.lt_of_le_of_lt (szL_at hx) HF.out
        have HI := hide (fun (W : World) (hW : Below w.heap.size w W) => IH.out x y _ _ W hsx (hnx.low hW) (hny.low hW))
        have HXY := hide (show L[j]? = L'[j]? ↔ x = y by rw [hx, hy]; exact ⟨fun e => Option.some.inj e, fun e => by rw [e]⟩)
        clear hx hy hcx hcy hnx hny hsx
        have a5 := HX.out.cell (i := 5) rfl
        have b5 := HY.out.cell (i := 5) rfl
        have c0 := HCX.out wr HB.out 0 _ rfl
        have c1 := HCX.out wr HB.out 1 _ rfl
        have c2 := HCX.out wr HB.out 2 _ rfl
        have c3 := HCX.out wr HB.out 3 _ rfl
        have c4 := HCX.out wr HB.out 4 _ rfl
        have c5 := HCX.out wr HB.out 5 _ rfl
        have d0 := HCY.out wr HB.out 0 _ rfl
        have d1 := HCY.out wr HB.out 1 _ rfl
        have d2 := HCY.out wr HB.out 2 _ rfl
        have d3 := HCY.out wr HB.out 3 _ rfl
        have d4 := HCY.out wr HB.out 4 _ rfl
        have d5 := HCY.out wr HB.out 5 _ rfl
        have hj0 : (0 : Int) ≤ (j : Int) := by omega
        have hj1 : (j : Int) < (m : Int) := by omega
        go_wp2
        go_region_held3 (fun W => W.cell? ⟨w.heap.size, 5, none⟩ = some (.slice (some ⟨b, o, none⟩) m cap) ∧ W.cell? ⟨w.heap.size + 1, 5, none⟩ = some (.slice (some ⟨b', o', none⟩) m cap') ∧ W.cell? ⟨b, o + j * 6, none⟩ = some (.int .i64 kx) ∧ W.cell? ⟨b, o + j * 6 + 1, none⟩ = some (.int .u64 (u0 : Int)) ∧ W.cell? ⟨b, o + j * 6 + 2, none⟩ = some (.int .u64 (u1 : Int)) ∧ W.cell? ⟨b, o + j * 6 + 3, none⟩ = some (.int .u64 (u2 : Int)) ∧ W.cell? ⟨b, o + j * 6 + 4, none⟩ = some (.int .u64 (u3 : Int)) ∧ W.cell? ⟨b, o + j * 6 + 5, none⟩ = some (.slice Ax mx capx) ∧ W.cell? ⟨b', o' + j * 6, none⟩ = some (.int .i64 ky) ∧ W.cell? ⟨b', o' + j * 6 + 1, none⟩ = some (.int .u64 (v0 : Int)) ∧ W.cell? ⟨b', o' + j * 6 + 2, none⟩ = some (.int .u64 (v1 : Int)) ∧ W.cell? ⟨b', o' + j * 6 + 3, none⟩ = some (.int .u64 (v2 : Int)) ∧ W.cell? ⟨b', o' + j * 6 + 4, none⟩ = some (.int .u64 (v3 : Int)) ∧ W.cell? ⟨b', o' + j * 6 + 5, none⟩ = some (.slice Ay my capy))
          (first | exact ⟨a5, b5, c0, c1, c2, c3, c4, c5, d0, d1, d2, d3, d4, d5⟩ | (refine ⟨?_, ?_, ?_, ?_, ?_, ?_, ?_, ?_, ?_, ?_, ?_, ?_, ?_, ?_⟩ <;> first | exact (hb9.cell (World.block_lt_of_cell? _ _ a5)).trans a5 | exact (hb9.cell (World.block_lt_of_cell? _ _ b5)).trans b5 | exact (hb9.cell (World.block_lt_of_cell? _ _ c0)).trans c0 | exact (hb9.cell (World.block_lt_of_cell? _ _ c1)).trans c1 | exact (hb9.cell (World.block_lt_of_cell? _ _ c2)).trans c2 | exact (hb9.cell (World.block_lt_of_cell? _ _ c3)).trans c3 | exact (hb9.cell (World.block_lt_of_cell? _ _ c4)).trans c4 | exact (hb9.cell (World.block_lt_of_cell? _ _ c5)).trans c5 | exact (hb9.cell (World.block_lt_of_cell? _ _ d0)).trans d0 | exact (hb9.cell (World.block_lt_of_cell? _ _ d1)).trans d1 | exact (hb9.cell (World.block_lt_of_cell? _ _ d2)).trans d2 | exact (hb9.cell (World.block_lt_of_cell? _ _ d3)).trans d3 | exact (hb9.cell (World.block_lt_of_cell? _ _ d4)).trans d4 | exact (hb9.cell (World.block_lt_of_cell? _ _ d5)).trans d5))
          (first | (go_at_call 18; refine (HI.out wr.drew ((HB.out.trans ((Below.refl wr.heap.size wr).mono HB.out.size)).drew)).mono ?_; intro e w9 hp; obtain ⟨b9, rfl, hb9e, hb9⟩ := hp) | fail)
        have HXY9 := hide (hb9e.trans HXY.out.symm)
        have HX9 := hide ((show Blk wr.drew w.heap.size 27 (ndL k [x0, x1, x2, x3] (.slice (some ⟨b, o, none⟩) m cap)) from HX.out).below hb9)
        have HY9 := hide ((show Blk wr.drew (w.heap.size + 1) 27 (ndL k [x0, x1, x2, x3] (.slice (some ⟨b', o', none⟩) m cap')) from HY.out).below hb9)
        have HB9 := hide ((HB.out.trans ((Below.refl wr.heap.size wr).mono HB.out.size)).drew.trans (hb9.mono HB.out.size))
        clear hb9 hb9e HX HY HB a5 b5 c0 c1 c2 c3 c4 c5 d0 d1 d2 d3 d4 d5 HCX HCY HI HXY IH HK HK'
        cases b9 with
        | true =>
          go_wp2
          go_roundw
          case rel => exact ⟨j + 1, by go_num, by omega, hide (fun i hi => by
            rcases Nat.lt_or_ge i j with h | h
            · exact HE.out i h
            · obtain rfl : i = j := by omega
              exact HXY9.out.1 rfl), HX9, HY9, HB9⟩
          case measure => simp [intOf]; omega
        | false =>
          have HR := hide (mk_ne_l (k := k) (k' := k) (S := [x0, x1, x2, x3]) (S' := [x0, x1, x2, x3]) (L := L) (L' := L') (fun e => by
            have := HXY9.out.2 (by rw [e])
            cases this))
          go_wp2
          go_ret
          exact SameP.no rfl HR.out HB9.out
      · obtain rfl : j = m := by omega
        have HR := hide (show Nd.mk k [x0, x1, x2, x3] L = Nd.mk k [x0, x1, x2, x3] L' by
          congr 1
          apply List.ext_getElem?
          intro i
          rcases Nat.lt_or_ge i j with h | h
          · exact HE.out i h
          · rw [List.getElem?_eq_none (by rw [HM.out]; exact h), List.getElem?_eq_none (by rw [HM'.out]; exact h)])
        go_wp2
        go_ret
        exact SameP.yes rfl HR.out HB.out
end Go.Proofs.YtfamoikmfbpigaaDoor
