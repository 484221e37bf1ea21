/- regs: row, rows. -/
import Derived.Test.YtfamoikmfbpigaaDoorEpiece
namespace Go.Proofs.YtfamoikmfbpigaaDoor
open Go.RowKit

def rowL (R : ByteArray → Option (Nd × ByteArray)) : Nat → List Nd → ByteArray → Option (List Nd × ByteArray)
  | 0, _, _ => none
  | f + 1, l, s => if s.size = 0 ∨ nextB s = 124 ∨ nextB s = 41 then some (l, s) else match pieceE R s with | none => none | some (n, t) => rowL R f (l ++ [n]) t
def rowE (R : ByteArray → Option (Nd × ByteArray)) (s : ByteArray) : Option (Nd × ByteArray) := match rowL R (s.size + 1) [] s with | none => none | some (l, t) => some (joinedE 2 l, t)
def rowsL (R : ByteArray → Option (Nd × ByteArray)) : Nat → List Nd → ByteArray → Option (List Nd × ByteArray)
  | 0, _, _ => none
  | f + 1, l, s => if isB s 124 = true then match rowE R (s.extract 1 s.size) with | none => none | some (n, t) => rowsL R f (l ++ [n]) t else some (l, s)
def rowsE1 (R : ByteArray → Option (Nd × ByteArray)) (s : ByteArray) : Option (Nd × ByteArray) :=
  match rowE R s with | none => none | some (n, t) => match rowsL R (t.size + 1) [n] t with | none => none | some (l, u) => some (joinedE 3 l, u)
def rowsE : Nat → ByteArray → Option (Nd × ByteArray)
  | 0, _ => none
  | f + 1, s => rowsE1 (rowsE f) s
theorem signsE_sz : ∀ (f : Nat) (n : Nd) (s : ByteArray), (signsE f n s).2.size ≤ s.size
  | 0, n, s => Nat.le_refl _
  | f + 1, n, s => by
    rw [signsE]
    split
    · have := signsE_sz f (.mk (sgn (nextB s)) noSet [n]) (s.extract 1 s.size)
      rw [ByteArray.size_extract] at this; omega
    · exact Nat.le_refl _
theorem braL_sz : ∀ (f : Nat) (b : Bool) (s : ByteArray) (S : List Nat) (S' : List Nat) (t : ByteArray), braL f b s S = some (S', t) → t.size ≤ s.size
  | 0, _, _, _, _, _, h => by cases h
  | f + 1, b, s, S, S', t, h => by
    rw [braL] at h
    split at h
    · split at h
      · cases h
      · rename_i a t1 h1
        have k1 := let_bd h1
        split at h
        · split at h
          · cases h
          · rename_i b2 t2 h2
            have k2 := let_bd h2
            rw [ByteArray.size_extract] at k2
            split at h
            · cases h
            · have := braL_sz f _ _ _ _ _ h; omega
        · have := braL_sz f _ _ _ _ _ h; omega
    · injection h with h; injection h with h1 h2; subst h2; exact Nat.le_refl _
theorem skipS_sz (s : ByteArray) (b : Nat) : (skipS s b).size ≤ s.size := by
  unfold skipS
  split
  · rw [ByteArray.size_extract]; omega
  · exact Nat.le_refl _
theorem atom_bd {R : ByteArray → Option (Nd × ByteArray)} (hRb : ∀ u n v, R u = some (n, v) → v.size ≤ u.size) {s t : ByteArray} {n : Nd} (h : atomE R s = some (n, t)) : t.size < s.size := by
  unfold atomE at h
  split at h
  · cases h
  · rename_i b t1 h1
    have k1 := tk_bd h1
    split at h
    · split at h
      · cases h
      · rename_i n2 t2 h2
        have := hRb _ _ _ h2
        split at h
        · injection h with h; injection h with e1 e2; subst e2; rw [ByteArray.size_extract]; omega
        · cases h
    · split at h
      · unfold braE at h
        split at h
        · cases h
        · rename_i S t2 h2
          have := braL_sz _ _ _ _ _ _ h2
          have := skipS_sz t1 94
          injection h with h; injection h with e1 e2; subst e2; rw [ByteArray.size_extract]; omega
      · split at h
        · injection h with h; injection h with e1 e2; subst e2; omega
        · split at h
          · split at h
            · cases h
            · rename_i c t2 h2
              have := esc_bd h2
              injection h with h; injection h with e1 e2; subst e2; omega
          · split at h
            · cases h
            · injection h with h; injection h with e1 e2; subst e2; omega
theorem piece_bd {R : ByteArray → Option (Nd × ByteArray)} (hRb : ∀ u n v, R u = some (n, v) → v.size ≤ u.size) {s t : ByteArray} {n : Nd} (h : pieceE R s = some (n, t)) : t.size < s.size := by
  unfold pieceE at h
  split at h
  · cases h
  · rename_i n1 t1 h1
    have := atom_bd hRb h1
    injection h with h
    have h2 := signsE_sz t1.size n1 t1
    rw [h] at h2
    dsimp only at h2; omega
theorem rowL_sz {R : ByteArray → Option (Nd × ByteArray)} (hRb : ∀ u n v, R u = some (n, v) → v.size ≤ u.size) : ∀ (f : Nat) (l l' : List Nd) (s t : ByteArray), rowL R f l s = some (l', t) → t.size ≤ s.size
  | 0, _, _, _, _, h => by cases h
  | f + 1, l, l', s, t, h => by
    rw [rowL] at h
    split at h
    · injection h with h; injection h with e1 e2; subst e2; exact Nat.le_refl _
    · split at h
      · cases h
      · rename_i n1 t1 h1
        have := piece_bd hRb h1
        have := rowL_sz hRb f _ _ _ _ h
        omega
theorem row_bd {R : ByteArray → Option (Nd × ByteArray)} (hRb : ∀ u n v, R u = some (n, v) → v.size ≤ u.size) {s t : ByteArray} {n : Nd} (h : rowE R s = some (n, t)) : t.size ≤ s.size := by
  unfold rowE at h
  split at h
  · cases h
  · rename_i l t1 h1
    have := rowL_sz hRb _ _ _ _ _ h1
    injection h with h; injection h with e1 e2; subst e2; exact this
theorem rowsL_sz {R : ByteArray → Option (Nd × ByteArray)} (hRb : ∀ u n v, R u = some (n, v) → v.size ≤ u.size) : ∀ (f : Nat) (l l' : List Nd) (s t : ByteArray), rowsL R f l s = some (l', t) → t.size ≤ s.size
  | 0, _, _, _, _, h => by cases h
  | f + 1, l, l', s, t, h => by
    rw [rowsL] at h
    split at h
    · split at h
      · cases h
      · rename_i n1 t1 h1
        have := row_bd hRb h1
        have := rowsL_sz hRb f _ _ _ _ h
        rw [ByteArray.size_extract] at *
        omega
    · injection h with h; injection h with e1 e2; subst e2; exact Nat.le_refl _
theorem rowsE_bd : ∀ (f : Nat) (u : ByteArray) (n : Nd) (v : ByteArray), rowsE f u = some (n, v) → v.size ≤ u.size
  | 0, _, _, _, h => by cases h
  | f + 1, u, n, v, h => by
    rw [rowsE, rowsE1] at h
    split at h
    · cases h
    · rename_i n1 t1 h1
      have := row_bd (rowsE_bd f) h1
      split at h
      · cases h
      · rename_i l u1 h2
        have := rowsL_sz (rowsE_bd f) _ _ _ _ _ h2
        injection h with h; injection h with e1 e2; subst e2; omega
theorem RowN.own {W : World} {B : Nat} {v : Value} {L : List Nd} (h : RowN W B v L) : ∀ q, v.ownBlock = some q → B ≤ q ∧ q < W.heap.size := by
  intro q hq
  obtain ⟨Cs, h1, h2, h3, h4⟩ := h
  rcases h3.2 with ⟨rfl, -⟩ | ⟨g, cap, cur, rfl, e2, e3, -⟩
  · cases hq
  · injection hq with hq; subst hq
    exact ⟨e2, (Array.getElem?_eq_some_iff.1 e3).1⟩
theorem KeepR.grown {p : Nat} {w X Y : World} {row : Option Nat} (h : KeepR p w X) (hg : X.grownBy Y row) (hr : ∀ q, row = some q → w.heap.size ≤ q) : KeepR p w Y :=
  ⟨hg.os.trans h.os, hg.tape.trans h.tape, hg.output.trans h.output, Nat.le_trans h.size hg.size, fun b hb hne => (hg.block b (Nat.lt_of_lt_of_le hb h.size) (fun e => by have := hr b e.symm; omega)).trans (h.block b hb hne)⟩
theorem SGr.grown {r : Nat} {X Y : World} {row : Option Nat} (h : SGr r X) (hg : X.grownBy Y row) (h1 : some 1 ≠ row) (h2 : some r ≠ row) : SGr r Y := by
  refine ⟨hg.cell h.1 h1, ?_⟩
  obtain ⟨es, clock, he, F, hs, hD⟩ := h.2
  exact ⟨es, clock, (hg.block r h.lt h2).trans he, F, hs, hD⟩
theorem Blk.grown {X Y : World} {row : Option Nat} {b : Nat} {t : TypeId} {cs : List Value} (h : Blk X b t cs) (hg : X.grownBy Y row) (h1 : some b ≠ row) : Blk Y b t cs := (hg.block b h.lt h1).trans h
/-- What row's box and slice hold. -/
structure RwS (r p z2 : Nat) (w W : World) (l : List Nd) (t : ByteArray) (v : Value) : Prop where
  rd : Rd W p t
  b2 : Blk W z2 27 (ndL 0 noSet (.slice none 0 0))
  row : RowN W (z2 + 1) v l
  sg : SGr r W
  keep : KeepR p w W
theorem RwS.step {r p z2 : Nat} {w W V : World} {l : List Nd} {t t' : ByteArray} {v : Value} (h : RwS r p z2 w W l t v) (hr : Rd V p t') (hk : KeepR p W V) (h2 : p < z2) (hg : 1 ≠ p) (hrp : r ≠ p) : RwS r p z2 w V l t' v :=
  ⟨hr, hk.blk h.b2 (by omega), h.row.keep hk.size (fun b hb hlt => hk.block b hlt (by omega)), h.sg.keepR hk hg hrp, h.keep.trans hk⟩
theorem RwS.low {r p z2 : Nat} {w W V : World} {l : List Nd} {t : ByteArray} {v : Value} (h : RwS r p z2 w W l t v) (hb : Below W.heap.size W V) : RwS r p z2 w V l t v :=
  ⟨h.rd.below hb, h.b2.below hb, h.row.keep hb.size (fun b _ hlt => hb.block b hlt), h.sg.below hb, h.keep.trans (KeepR.of hb)⟩
theorem RwS.app {r p z2 : Nat} {w W V : World} {l : List Nd} {t : ByteArray} {v v' : Value} {n : Nd} {cs : List Value} {Cs : List (List Value)} (h : RwS r p z2 w W l t v) (hz : z2 = w.heap.size) (hp : p < z2) (hgz : 1 < z2) (hrz : r < z2) (h1 : Cs.length = l.length) (h2 : ∀ cs ∈ Cs, cs.length = 6) (h4 : ∀ (j : Nat) (x : Nd), l[j]? = some x → ∃ cs, Cs[j]? = some cs ∧ NdX (fun b => z2 + 1 ≤ b ∧ some b ≠ v.ownBlock) W x cs)
    (hx : NdX (fun b => z2 + 1 ≤ b ∧ some b ≠ v.ownBlock) W n cs) (hown : V.ownsRow (z2 + 1) 27 6 v' (l.length + 1) (Cs.flatten ++ cs)) (hg : W.grownBy V v.ownBlock) (hat : v'.ownBlock = v.ownBlock ∨ v'.ownBlock = some W.heap.size) : RwS r p z2 w V (l ++ [n]) t v' := by
  have ho : ∀ q, v.ownBlock = some q → z2 + 1 ≤ q := fun q hq => (h.row.own q hq).1
  exact ⟨Blk.grown h.rd hg (fun e => by have := ho _ e.symm; omega), Blk.grown h.b2 hg (fun e => by have := ho _ e.symm; omega), RowN.app h1 h2 h4 hx hown hg hat, h.sg.grown hg (fun e => by have := ho _ e.symm; omega) (fun e => by have := ho _ e.symm; omega), h.keep.grown hg (fun q hq => by have := ho q hq; omega)⟩
theorem new_at (W : World) (cs : List Value) : ∀ j u, cs[j]? = some u → (W.alloc (.cells cs.toArray 27)).cell? ((⟨W.heap.size, 0, none⟩ : Addr).add j) = some u := by
  intro j u hu
  have h := (Blk.new W 27 cs).cell (i := j) hu
  rw [← h]
  congr 1
  unfold Addr.add
  split <;> simp_all
set_option maxHeartbeats 4000000 in
set_option maxRecDepth 100000 in
theorem row_any (r p : Nat) (s : ByteArray) (R : ByteArray → Option (Nd × ByteArray)) (w : World) (h : Rd w p s) (hm : s.size ≤ 100000) (hS : SGr r w) (hrp : r ≠ p) (hgp : 1 ≠ p)
    (hR : ∀ u W, u.size < s.size → Rd W p u → KeepR p w W → Calls Tryd.prog 27 #[.pointer (some ⟨p, 0, none⟩)] W (ResN p W (R u))) (hRb : ∀ u n v, R u = some (n, v) → v.size ≤ u.size) :
    Calls Tryd.prog 37 #[.pointer (some ⟨p, 0, none⟩)] w (ResN p w (rowE R s)) := by
  have HP := hide (fun (t : ByteArray) (W : World) (ht : t.size ≤ s.size) (hk : KeepR p w W) (hr : Rd W p t) (hs : SGr r W) => piece_any r p t R W hr (by omega) hs hrp hgp (fun u V hu hv hkv => hR u V (by omega) hv (hk.trans hkv)) hRb (fun n t' he => atom_bd hRb he))
  have HBD := hide (fun t n t' (he : pieceE R t = some (n, t')) => piece_bd hRb he)
  have HPE := hide (show rowE R s = (match rowL R (s.size + 1) [] s with | none => none | some (l, t) => some (joinedE 2 l, t)) from rfl)
  have hpw := h.lt
  have hgw : 1 < w.heap.size := World.block_lt_of_cell? _ _ hS.1
  have hrw := hS.lt
  have hb0 : Below w.heap.size w (w.alloc (.cells (ndL 0 noSet (.slice none 0 0)).toArray 27)) := (Below.refl _ _).alloc (Nat.le_refl _) _
  obtain ⟨W0, hW0⟩ : ∃ W, w.alloc (.cells (ndL 0 noSet (.slice none 0 0)).toArray 27) = W := ⟨_, rfl⟩
  have k0 : Blk W0 w.heap.size 27 (ndL 0 noSet (.slice none 0 0)) := by rw [← hW0]; exact Blk.new _ _ _
  rw [hW0] at hb0
  obtain ⟨i0, hi, hz0, hz1, hz2⟩ := infoN_parts
  have HB1 := hide (show RwS r p w.heap.size w W0 [] s (.slice none 0 0) from ⟨h.below hb0, k0, RowN.nil _ _, hS.below hb0, KeepR.of hb0⟩)
  clear h hS hb0 k0 hR hRb
  go_enter Tryd.func37, Tryd.ntmps37
  go_wp2_with fail
  rw [show w.alloc (.cells #[.int .i64 0, .int .u64 0, .int .u64 0, .int .u64 0, .int .u64 0, .slice none 0 0] 27) = W0 from hW0]
  clear hW0
  obtain ⟨z2, hz2e⟩ : ∃ q, q = w.heap.size := ⟨_, rfl⟩
  rw [← hz2e] at HB1 ⊢
  have hpz : p < z2 := by omega
  have hgz : 1 < z2 := by omega
  have hrz : r < z2 := by omega
  have HZ2 := hide hz2e
  have hwz2 : w.heap.size ≤ z2 := by omega
  clear hz2e
  obtain ⟨X, hX⟩ : ∃ X, rowL R (s.size + 1) [] s = X := ⟨_, rfl⟩
  rw [hX] at HPE
  have HXE := hide hX
  clear hX
  go_loopw [3] (fun v wr => ∃ (l : List Nd) (t : ByteArray) (f : Nat), t.size < f ∧ l.length + t.size ≤ s.size ∧ Hid (rowL R f l t = X) ∧ Hid (RwS r p z2 w wr l t v)) (fun _ wr => sizeR wr p)
  case atStart => exact ⟨[], s, s.size + 1, by omega, by simp, HXE, HB1⟩
  case round =>
    clear HB1 HXE
    obtain ⟨l, t, f, hf, hlt, HXE, HB⟩ := hrel
    obtain ⟨f, rfl⟩ : ∃ g, f = g + 1 := ⟨f - 1, by omega⟩
    have hsr := sizeR_rd HB.out.rd
    have r0 := HB.out.rd.cell (i := 0) rfl
    have HST := HXE.out
    rw [rowL] at HST
    by_cases h0 : 0 < t.size
    · have he := ne_emp (s := t) (by omega)
      have hnb : nextB t = t[0].toNat := dif_pos h0
      by_cases h124 : nextB t = 124
      · rw [if_pos (.inr (.inl h124))] at HST
        have HXM := hide HST
        have q1 : ((t[0].toNat : Int) != 124) = false := by simp; omega
        clear HST
        as_aux_lemma =>
          obtain ⟨A, cap, rfl, hlc, hcap, hkids⟩ := HB.out.row.kids
          have HJ := hide (joined_any (z2 + 1) 2 A l.length cap l wr rfl hlc hcap (by omega) hkids)
          clear hlc hcap hkids
          go_wp2_with fail
          refine HJ.out.mono ?_; rintro e w9 ⟨cs, he9, hn, hb9⟩
          have hx9 := NdX.of _ _ hn
          obtain ⟨k, x0, x1, x2, x3, A9, m9, cap9, rfl, -, -⟩ := hx9.form
          have he9 : e = .returned (.agg #[.int .i64 k, .int .u64 (x0 : Int), .int .u64 (x1 : Int), .int .u64 (x2 : Int), .int .u64 (x3 : Int), .slice A9 m9 cap9]) := he9
          subst he9
          have HB9 := hide (HB.out.low hb9)
          have HX9 := hide hx9
          clear hn hb9 hx9 HJ
          have bf := fun i => HB9.out.b2.frozen i
          have b0 := HB9.out.b2.cell (i := 0) rfl
          have b1 := HB9.out.b2.cell (i := 1) rfl
          have b2 := HB9.out.b2.cell (i := 2) rfl
          have b3 := HB9.out.b2.cell (i := 3) rfl
          have b4 := HB9.out.b2.cell (i := 4) rfl
          have b5 := HB9.out.b2.cell (i := 5) rfl
          go_wp2
          refine bodyPost_ret (results_cell_row rfl _ _ z2 27 (ndL k [x0, x1, x2, x3] (.slice A9 m9 cap9)).toArray (0, 0) _ rfl (nd_put HB9.out.b2 k x0 x1 x2 x3 (.slice A9 m9 cap9)) Tryd.underlying27 rfl (by kernel_rfl)) rfl ?_
          have hk := nd_keep w9 z2 k x0 x1 x2 x3 (.slice A9 m9 cap9)
          rw [HPE.out, ← HXM.out]
          exact ⟨_, rfl, NdX.at (fun b hb => by omega) _ _ (HX9.out.keepR (fun b hb => by omega) hk), HB9.out.rd.keepZ hk (by omega), HB9.out.keep.own hk (by omega)⟩
      · by_cases h41 : nextB t = 41
        · rw [if_pos (.inr (.inr h41))] at HST
          have HXM := hide HST
          have q1 : ((t[0].toNat : Int) != 124) = true := by simp; omega
          have q2 : ((t[0].toNat : Int) != 41) = false := by simp; omega
          clear HST
          as_aux_lemma =>
            obtain ⟨A, cap, rfl, hlc, hcap, hkids⟩ := HB.out.row.kids
            have HJ := hide (joined_any (z2 + 1) 2 A l.length cap l wr rfl hlc hcap (by omega) hkids)
            clear hlc hcap hkids
            go_wp2_with fail
            refine HJ.out.mono ?_; rintro e w9 ⟨cs, he9, hn, hb9⟩
            have hx9 := NdX.of _ _ hn
            obtain ⟨k, x0, x1, x2, x3, A9, m9, cap9, rfl, -, -⟩ := hx9.form
            have he9 : e = .returned (.agg #[.int .i64 k, .int .u64 (x0 : Int), .int .u64 (x1 : Int), .int .u64 (x2 : Int), .int .u64 (x3 : Int), .slice A9 m9 cap9]) := he9
            subst he9
            have HB9 := hide (HB.out.low hb9)
            have HX9 := hide hx9
            clear hn hb9 hx9 HJ
            have bf := fun i => HB9.out.b2.frozen i
            have b0 := HB9.out.b2.cell (i := 0) rfl
            have b1 := HB9.out.b2.cell (i := 1) rfl
            have b2 := HB9.out.b2.cell (i := 2) rfl
            have b3 := HB9.out.b2.cell (i := 3) rfl
            have b4 := HB9.out.b2.cell (i := 4) rfl
            have b5 := HB9.out.b2.cell (i := 5) rfl
            go_wp2
            refine bodyPost_ret (results_cell_row rfl _ _ z2 27 (ndL k [x0, x1, x2, x3] (.slice A9 m9 cap9)).toArray (0, 0) _ rfl (nd_put HB9.out.b2 k x0 x1 x2 x3 (.slice A9 m9 cap9)) Tryd.underlying27 rfl (by kernel_rfl)) rfl ?_
            have hk := nd_keep w9 z2 k x0 x1 x2 x3 (.slice A9 m9 cap9)
            rw [HPE.out, ← HXM.out]
            exact ⟨_, rfl, NdX.at (fun b hb => by omega) _ _ (HX9.out.keepR (fun b hb => by omega) hk), HB9.out.rd.keepZ hk (by omega), HB9.out.keep.own hk (by omega)⟩
        · rw [if_neg (by rintro (h | h | h) <;> omega)] at HST
          have q1 : ((t[0].toNat : Int) != 124) = true := by simp; omega
          have q2 : ((t[0].toNat : Int) != 41) = true := by simp; omega
          clear hnb h124 h41
          · go_wp2_with fail
            refine (HP.out t _ (by omega) HB.out.keep HB.out.rd HB.out.sg).mono ?_; rintro e w4 hr
            rcases hr.cases with ⟨hx, rfl, h3⟩ | ⟨n, t', k, x0, x1, x2, x3, A, m, cap, hx, rfl, hn, h3, h4⟩
            · rw [hx] at HST
              have HNX := HST
              clear hr hx
              go_wp2
              exact ⟨rfl, by rw [HPE.out, ← HNX]; exact ⟨rfl, HB.out.keep.trans h3⟩⟩
            · have hts := HBD.out t n t' hx
              rw [hx] at HST
              dsimp only at HST
              have HXM := hide HST
              have HB4 := hide (HB.out.step h3 h4 hpz hgp hrp)
              have hwz := HB.out.b2.lt
              have HN4 := hide (NdX.keep (Q := fun b => z2 + 1 ≤ b ∧ some b ≠ u3.ownBlock) (fun b hb _ => ⟨by omega, fun e => by have := (HB.out.row.own b e.symm).2; omega⟩) (Nat.le_refl _) (fun _ _ _ _ h => h) _ _ (NdX.of _ _ hn))
              clear hr hx h3 h4 hn HST HB HXE
              have hbl : Below w4.heap.size w4 (w4.alloc (.cells (ndL k [x0, x1, x2, x3] (.slice A m cap)).toArray 27)) := (Below.refl _ _).alloc (Nat.le_refl _) _
              have HBa := hide (HB4.out.low hbl)
              have HNa := hide (HN4.out.low hbl)
              obtain ⟨Cs, hc1, hc2, hc3, hc4⟩ := HBa.out.row
              have HC4 := hide hc4
              have hzz := HBa.out.b2.lt
              clear hbl hc4
              go_wp2_with (at_builtin; refine wpList_append_own_at _ rfl _ _ 25 rfl (z2 + 1) 27 i0 _ 6 64 Tryd.underlying25 hi hz0 hz1 hz2 (by rfl) (by decide) u3 l.length Cs.flatten rfl hc3 ⟨w4.heap.size, 0, none⟩ 1 1 (ndL k [x0, x1, x2, x3] (.slice A m cap)) rfl rfl (new_at w4 (ndL k [x0, x1, x2, x3] (.slice A m cap))) (NdX.one HNa.out) (by unfold maxLen; omega) (by omega) hzz ?_; intro v' w6 hown1 hgrow1 _ hat1)
              have HB6 := hide (HBa.out.app HZ2.out hpz hgz hrz hc1 hc2 HC4.out HNa.out hown1 hgrow1 hat1)
              clear hown1 hgrow1 hat1 HC4 hc1 hc2 hc3 HBa HNa
              have hs6 := sizeR_rd HB6.out.rd
              go_wp2
              go_roundw
              case rel => exact ⟨l ++ [n], t', f, by omega, by rw [List.length_append]; simp; omega, HXM, HB6⟩
              case measure => rw [hs6, hsr]; omega
    · obtain rfl := is_emp (s := t) (by omega)
      rw [if_pos (.inl rfl)] at HST
      have HXM := hide HST
      clear HST
      as_aux_lemma =>
        obtain ⟨A, cap, rfl, hlc, hcap, hkids⟩ := HB.out.row.kids
        have HJ := hide (joined_any (z2 + 1) 2 A l.length cap l wr rfl hlc hcap (by omega) hkids)
        clear hlc hcap hkids
        go_wp2_with fail
        refine HJ.out.mono ?_; rintro e w9 ⟨cs, he9, hn, hb9⟩
        have hx9 := NdX.of _ _ hn
        obtain ⟨k, x0, x1, x2, x3, A9, m9, cap9, rfl, -, -⟩ := hx9.form
        have he9 : e = .returned (.agg #[.int .i64 k, .int .u64 (x0 : Int), .int .u64 (x1 : Int), .int .u64 (x2 : Int), .int .u64 (x3 : Int), .slice A9 m9 cap9]) := he9
        subst he9
        have HB9 := hide (HB.out.low hb9)
        have HX9 := hide hx9
        clear hn hb9 hx9 HJ
        have bf := fun i => HB9.out.b2.frozen i
        have b0 := HB9.out.b2.cell (i := 0) rfl
        have b1 := HB9.out.b2.cell (i := 1) rfl
        have b2 := HB9.out.b2.cell (i := 2) rfl
        have b3 := HB9.out.b2.cell (i := 3) rfl
        have b4 := HB9.out.b2.cell (i := 4) rfl
        have b5 := HB9.out.b2.cell (i := 5) rfl
        go_wp2
        refine bodyPost_ret (results_cell_row rfl _ _ z2 27 (ndL k [x0, x1, x2, x3] (.slice A9 m9 cap9)).toArray (0, 0) _ rfl (nd_put HB9.out.b2 k x0 x1 x2 x3 (.slice A9 m9 cap9)) Tryd.underlying27 rfl (by kernel_rfl)) rfl ?_
        have hk := nd_keep w9 z2 k x0 x1 x2 x3 (.slice A9 m9 cap9)
        rw [HPE.out, ← HXM.out]
        exact ⟨_, rfl, NdX.at (fun b hb => by omega) _ _ (HX9.out.keepR (fun b hb => by omega) hk), HB9.out.rd.keepZ hk (by omega), HB9.out.keep.own hk (by omega)⟩
end Go.Proofs.YtfamoikmfbpigaaDoor
