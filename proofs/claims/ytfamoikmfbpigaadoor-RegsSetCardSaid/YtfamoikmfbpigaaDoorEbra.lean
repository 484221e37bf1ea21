/- regs: bracket. -/
import Derived.Test.YtfamoikmfbpigaaDoorEnd
import Derived.Laws.Bits64
import Derived.Laws.Rows
namespace Go.Proofs.YtfamoikmfbpigaaDoor
open Go.RowKit

/-- What stands in brackets: span by span. -/
def braL : Nat → Bool → ByteArray → List Nat → Option (List Nat × ByteArray)
  | 0, _, _, _ => none
  | f + 1, fst, t, S =>
    if fst = true ∨ nextB t ≠ 93 then
      match letE t with
      | none => none
      | some (a, t1) =>
        if isB t1 45 = true then
          match letE (t1.extract 1 t1.size) with
          | none => none
          | some (b, t2) => if b < a then none else braL f false t2 (spanS S a (b + 1 - a))
        else braL f false t1 (spanS S a 1)
    else some (S, t)
def cmpJ (S : List Nat) : Nat → List Nat
  | 0 => S
  | j + 1 => (cmpJ S j).set j (18446744073709551615 - (cmpJ S j)[j]?.getD 0)
theorem cmpJ_w {S : List Nat} (h : W64 S) : ∀ j, W64 (cmpJ S j)
  | 0 => h
  | j + 1 => by
    refine ⟨by rw [cmpJ, List.length_set]; exact (cmpJ_w h j).1, fun x hx => ?_⟩
    rw [cmpJ] at hx
    rcases List.mem_or_eq_of_mem_set hx with h1 | rfl
    · exact (cmpJ_w h j).2 x h1
    · omega
theorem cmp_w {S : List Nat} (h : W64 S) (j x : Nat) : W64 (S.set j (18446744073709551615 - x)) := by
  refine ⟨by rw [List.length_set]; exact h.1, fun y hy => ?_⟩
  rcases List.mem_or_eq_of_mem_set hy with h1 | rfl
  · exact h.2 y h1
  · omega
theorem not_u64 (x : Nat) (hx : x < 18446744073709551616) : bits .xor .u64 (if IntKind.u64.signed = true then -1 else IntKind.u64.max) (x : Int) = ((18446744073709551615 - x : Nat) : Int) := by
  have e : (if IntKind.u64.signed = true then (-1 : Int) else IntKind.u64.max) = ((18446744073709551615 : Nat) : Int) := by decide
  rw [e, bits_xor_u64_nat _ _ (by omega) hx]
  congr 1
  have h1 := BitVec.toNat_not (x := BitVec.ofNat 64 x)
  rw [BitVec.not_def, BitVec.toNat_xor, BitVec.toNat_allOnes, BitVec.toNat_ofNat, Nat.mod_eq_of_lt (by omega)] at h1
  exact h1
def noSet : List Nat := [0, 0, 0, 0]
theorem noSet_w : W64 noSet := ⟨rfl, fun x hx => by simp [noSet] at hx; omega⟩
def braE (s : ByteArray) : Option (Nd × ByteArray) :=
  match braL ((skipS s 94).size + 1) true (skipS s 94) noSet with
  | none => none
  | some (S, t) => some (.mk 1 (cmpJ S (if isB s 94 = true then 4 else 0)) [], t.extract 1 t.size)
theorem esc_bd {s t : ByteArray} {b : Nat} (h : escE s = some (b, t)) : b < 256 ∧ t.size < s.size := by
  unfold escE at h
  split at h
  · cases h
  · rename_i b1 s1 h1
    have k1 := tk_bd h1
    repeat' split at h
    all_goals first
      | cases h; done
      | (injection h with h; injection h with e1 e2; subst e1 e2; exact ⟨by omega, by omega⟩)
      | skip
    all_goals (
      rename_i x s2 h2 _ hd hh3 _ y s3 h4 _ l hl
      have k2 := tk_bd h2
      have k4 := tk_bd h4
      have d1 := dig_bd k2.1 hh3
      have d2 := dig_bd k4.1 hl
      injection h with h; injection h with e1 e2; subst e1 e2
      exact ⟨by omega, by omega⟩)
theorem let_bd {s t : ByteArray} {b : Nat} (h : letE s = some (b, t)) : b < 256 ∧ t.size < s.size := by
  unfold letE at h
  split at h
  · cases h
  · rename_i b1 s1 h1
    have k1 := tk_bd h1
    split at h
    · have := esc_bd h; omega
    · split at h
      · cases h
      · injection h with h; injection h with e1 e2; subst e1 e2; omega
theorem isB_next {t : ByteArray} (h : nextB t = 93) : isB t 93 = true := by
  unfold nextB at h; unfold isB
  split at h
  · rename_i h0; rw [dif_pos h0]; simpa using h
  · omega
theorem skip_size (s : ByteArray) (b : Nat) : (skipS s b).size ≤ s.size := by
  unfold skipS; split
  · rw [ByteArray.size_extract]; omega
  · exact Nat.le_refl _
/-- How long the reader's text is. -/
def sizeR (W : World) (p : Nat) : Nat := match W.cell? ⟨p, 0, none⟩ with | some (.string s) => s.size | _ => 0
theorem sizeR_rd {W : World} {p : Nat} {t : ByteArray} (h : Rd W p t) : sizeR W p = t.size := by unfold sizeR; rw [h.cell (i := 0) rfl]
theorem ndL_nil (k : Int) : ndL k noSet (.slice none 0 0) = [.int .i64 k, .int .u64 0, .int .u64 0, .int .u64 0, .int .u64 0, .slice none 0 0] := rfl
/-- What bracket's loops carry. -/
def BraS (w W : World) (p z2 z3 : Nat) (t : ByteArray) (S : List Nat) : Prop :=
  Rd W p t ∧ Blk W z2 27 (ndL 0 noSet (.slice none 0 0)) ∧ Blk W z3 27 (ndL 1 S (.slice none 0 0)) ∧ KeepR p w W ∧ W64 S
theorem BraS.step {w W V : World} {p z2 z3 : Nat} {t t' : ByteArray} {S : List Nat} (h : BraS w W p z2 z3 t S) (hr : Rd V p t') (hk : KeepR p W V) (h2 : z2 ≠ p) (h3 : z3 ≠ p) : BraS w V p z2 z3 t' S :=
  ⟨hr, hk.blk h.2.1 h2, hk.blk h.2.2.1 h3, h.2.2.2.1.trans hk, h.2.2.2.2⟩
theorem BraS.span {w W V : World} {p z2 z3 : Nat} {t : ByteArray} {S S' : List Nat} (h : BraS w W p z2 z3 t S) (hb : Blk V z3 27 (ndL 1 S' (.slice none 0 0))) (hk : KeepR z3 W V) (h2 : z2 ≠ z3) (h3 : p ≠ z3) (hz : w.heap.size ≤ z3) (hS : W64 S') : BraS w V p z2 z3 t S' :=
  ⟨h.1.keepZ hk h3, hk.blk h.2.1 h2, hb, h.2.2.2.1.own hk hz, hS⟩
/-- A box with a node laid in. -/
def ndSet (W : World) (z : Nat) (k : Int) (a b c d : Nat) (v : Value) : World := (((((W.setCell ⟨z, 0, none⟩ (.int .i64 k)).setCell ⟨z, 1, none⟩ (.int .u64 (a : Int))).setCell ⟨z, 2, none⟩ (.int .u64 (b : Int))).setCell ⟨z, 3, none⟩ (.int .u64 (c : Int))).setCell ⟨z, 4, none⟩ (.int .u64 (d : Int))).setCell ⟨z, 5, none⟩ v
theorem nd_put {W : World} {z : Nat} {k0 : Int} {v0 : Value} (h : Blk W z 27 (ndL k0 noSet v0)) (k : Int) (a b c d : Nat) (v : Value) : Blk (ndSet W z k a b c d v) z 27 (ndL k [a, b, c, d] v) :=
  (((((h.set 0 _).set 1 _).set 2 _).set 3 _).set 4 _).set 5 _
theorem nd_keep (W : World) (z : Nat) (k : Int) (a b c d : Nat) (v : Value) : KeepR z W (ndSet W z k a b c d v) :=
  (((((KeepR.setK z 0 W _).trans (KeepR.setK z 1 _ _)).trans (KeepR.setK z 2 _ _)).trans (KeepR.setK z 3 _ _)).trans (KeepR.setK z 4 _ _)).trans (KeepR.setK z 5 _ _)
set_option maxHeartbeats 4000000 in
set_option maxRecDepth 100000 in
theorem bra_any (p : Nat) (s : ByteArray) (w : World) (h : Rd w p s) (hm : s.size ≤ 100000) : Calls Tryd.prog 70 #[.pointer (some ⟨p, 0, none⟩)] w (ResN p w (braE s)) := by
  have hpw := h.lt
  have hb0 : Below w.heap.size w (w.alloc (.cells (ndL 0 noSet (.slice none 0 0)).toArray 27)) := (Below.refl _ _).alloc (Nat.le_refl _) _
  obtain ⟨W0, hW0⟩ : ∃ W, w.alloc (.cells (ndL 0 noSet (.slice none 0 0)).toArray 27) = W := ⟨_, rfl⟩
  have k0 : Blk W0 w.heap.size 27 (ndL 0 noSet (.slice none 0 0)) := by rw [← hW0]; exact Blk.new _ _ _
  have hz0 : W0.heap.size = w.heap.size + 1 := by rw [← hW0]; simp
  rw [hW0] at hb0
  have hb1 : Below W0.heap.size W0 (W0.alloc (.cells (ndL 1 noSet (.slice none 0 0)).toArray 27)) := (Below.refl _ _).alloc (Nat.le_refl _) _
  obtain ⟨W1, hW1⟩ : ∃ W, W0.alloc (.cells (ndL 1 noSet (.slice none 0 0)).toArray 27) = W := ⟨_, rfl⟩
  have k1 : Blk W1 (w.heap.size + 1) 27 (ndL 1 noSet (.slice none 0 0)) := by rw [← hW1, ← hz0]; exact Blk.new _ _ _
  rw [hW1] at hb1
  have HB1 := hide (show BraS w W1 p w.heap.size (w.heap.size + 1) s noSet from ⟨(h.below hb0).below hb1, k0.below hb1, k1, (KeepR.of hb0).trans (KeepR.of hb1), noSet_w⟩)
  clear h hb0 k0 hb1 k1
  go_enter Tryd.func70, Tryd.ntmps70
  go_wp2_with fail
  rw [show w.alloc (.cells #[.int .i64 0, .int .u64 0, .int .u64 0, .int .u64 0, .int .u64 0, .slice none 0 0] 27) = W0 from hW0]
  rw [show W0.alloc (.cells #[.int .i64 1, .int .u64 0, .int .u64 0, .int .u64 0, .int .u64 0, .slice none 0 0] 27) = W1 from hW1]
  clear hW0 hW1 hz0
  obtain ⟨z2, hz2⟩ : ∃ q, w.heap.size = q := ⟨_, rfl⟩
  obtain ⟨z3, hz3⟩ : ∃ q, z2 + 1 = q := ⟨_, rfl⟩
  rw [hz2, hz3]
  rw [hz2, hz3] at HB1
  have h2p : z2 ≠ p := by omega
  have h3p : z3 ≠ p := by omega
  have hp3 : p ≠ z3 := by omega
  have h23 : z2 ≠ z3 := by omega
  have hzw : w.heap.size ≤ z3 := by omega
  clear hz3 hpw
  refine (skip_any p s 94 _ HB1.out.1 (by omega)).mono ?_; rintro e w2 ⟨rfl, h1, h2⟩
  have HB2 := hide (HB1.out.step h1 h2 h2p h3p)
  clear h1 h2 HB1
  obtain ⟨nt, hnt⟩ : ∃ b, isB s 94 = b := ⟨_, rfl⟩
  obtain ⟨s1, hs1⟩ : ∃ t, skipS s 94 = t := ⟨_, rfl⟩
  have hsz := skip_size s 94
  have HX := hide (show braE s = match braL (s1.size + 1) true s1 noSet with | none => none | some (S, t) => some (.mk 1 (cmpJ S (if nt = true then 4 else 0)) [], t.extract 1 t.size) by unfold braE; rw [hnt, hs1])
  rw [hnt]
  rw [hs1] at HB2 hsz
  obtain ⟨X, hXe⟩ : ∃ X, braL (s1.size + 1) true s1 noSet = X := ⟨_, rfl⟩
  rw [hXe] at HX
  have HXE := hide hXe
  clear hnt hs1 hXe
  go_wp2_with fail
  go_loopw [5] (fun fv wr => ∃ (fst : Bool) (f : Nat) (t : ByteArray) (S : List Nat), fv = .bool fst ∧ t.size + 1 ≤ f ∧ t.size ≤ 100000 ∧ f ≤ 100001 ∧ Hid (braL f fst t S = X) ∧ Hid (BraS w wr p z2 z3 t S)) (fun _ wr => sizeR wr p)
  case atStart => exact ⟨true, s1.size + 1, s1, noSet, rfl, Nat.le_refl _, by omega, by omega, HXE, HB2⟩
  case round =>
    clear HB2 HXE
    obtain ⟨fst, f, t, S, rfl, hf, ht, hf2, HL, HB⟩ := hrel
    obtain ⟨f, rfl⟩ : ∃ g, f = g + 1 := ⟨f - 1, by omega⟩
    have hsr := sizeR_rd HB.out.1
    by_cases hgo : fst = true ∨ nextB t ≠ 93
    · have HST := HL.out
      rw [braL, if_pos hgo] at HST
      clear HL
      cases fst with
      | true =>
        clear hgo
        as_aux_lemma =>
          go_wp2_with fail
          refine (let_any p t _ HB.out.1 (by omega)).mono ?_; rintro e w4 hr
          rcases hr.cases with ⟨hx, rfl, h3⟩ | ⟨a, t1, hx, rfl, h3, h4⟩
          · rw [hx] at HST
            have HNX := HST
            clear hr hx
            go_wp2
            exact ⟨rfl, by rw [HX.out, ← HNX]; exact ⟨rfl, HB.out.2.2.2.1.trans h3⟩⟩
          · have hlb := let_bd hx
            rw [hx] at HST
            dsimp only at HST
            have HB4 := hide (HB.out.step h3 h4 h2p h3p)
            clear hr hx h3 h4
            go_wp2_with fail
            refine (skip_any p t1 45 _ HB4.out.1 (by omega)).mono ?_; rintro e w5 ⟨rfl, h5, h6⟩
            cases hb45 : isB t1 45 with
            | true =>
              rw [if_pos hb45] at HST
              rw [show skipS t1 45 = t1.extract 1 t1.size from if_pos hb45] at h5
              have hex : (t1.extract 1 t1.size).size ≤ t1.size := by rw [ByteArray.size_extract]; omega
              have HB5 := hide (HB4.out.step h5 h6 h2p h3p)
              clear h5 h6 hb45
              go_wp2_with fail
              refine (let_any p _ _ HB5.out.1 (by omega)).mono ?_; rintro e w6 hr
              rcases hr.cases with ⟨hx, rfl, h3⟩ | ⟨b, t2, hx, rfl, h3, h4⟩
              · rw [hx] at HST
                have HNX := HST
                clear hr hx
                go_wp2
                exact ⟨rfl, by rw [HX.out, ← HNX]; exact ⟨rfl, HB5.out.2.2.2.1.trans h3⟩⟩
              · have hlb2 := let_bd hx
                rw [hx] at HST
                dsimp only at HST
                have HB6 := hide (HB5.out.step h3 h4 h2p h3p)
                clear hr hx h3 h4
                by_cases hba : b < a
                · rw [if_pos hba] at HST
                  have HNX := HST
                  have hba2 : (b : Int) < (a : Int) := by omega
                  go_wp2
                  exact ⟨rfl, by rw [HX.out, ← HNX]; exact ⟨rfl, HB6.out.2.2.2.1⟩⟩
                · rw [if_neg hba] at HST
                  have hba2 : ¬ (b : Int) < (a : Int) := by omega
                  have hbk := HB6.out.2.2.1
                  go_wp2_with fail
                  refine (span_any z3 1 S (.slice none 0 0) a b _ HB6.out.2.2.1 HB6.out.2.2.2.2 (by omega) (by omega)).mono ?_; rintro e w9 ⟨rfl, h9, k9⟩
                  have HB9 := hide (HB6.out.span h9 k9 h23 hp3 hzw (spanS_w HB6.out.2.2.2.2 a _))
                  have hs9 := sizeR_rd HB9.out.1
                  clear h9 k9 hbk
                  go_wp2_with fail
                  go_roundw
                  case rel => exact ⟨false, f, t2, _, rfl, by omega, by omega, by omega, hide HST, HB9⟩
                  case measure => rw [hs9, hsr]; omega
            | false =>
              rw [if_neg (by rw [hb45]; decide)] at HST
              rw [show skipS t1 45 = t1 from if_neg (by rw [hb45]; decide)] at h5
              have HB5 := hide (HB4.out.step h5 h6 h2p h3p)
              clear h5 h6 hb45
              have hbk := HB5.out.2.2.1
              go_wp2_with fail
              refine (span_any z3 1 S (.slice none 0 0) a a _ HB5.out.2.2.1 HB5.out.2.2.2.2 (by omega) (by omega)).mono ?_; rintro e w9 ⟨rfl, h9, k9⟩
              rw [show a + 1 - a = 1 by omega] at h9
              have HB9 := hide (HB5.out.span h9 k9 h23 hp3 hzw (spanS_w HB5.out.2.2.2.2 a 1))
              have hs9 := sizeR_rd HB9.out.1
              clear h9 k9 hbk
              go_wp2_with fail
              go_roundw
              case rel => exact ⟨false, f, t1, _, rfl, by omega, by omega, by omega, hide HST, HB9⟩
              case measure => rw [hs9, hsr]; omega
      | false =>
        have hnx : nextB t ≠ 93 := hgo.elim (fun e => by cases e) id
        have qn : ((nextB t : Int) != 93) = true := by simp; omega
        clear hgo hnx
        go_wp2_with fail
        refine (rnext_any p t _ HB.out.1 (by omega)).mono ?_; rintro e w3 ⟨rfl, rfl⟩
        as_aux_lemma =>
          go_wp2_with fail
          refine (let_any p t _ HB.out.1 (by omega)).mono ?_; rintro e w4 hr
          rcases hr.cases with ⟨hx, rfl, h3⟩ | ⟨a, t1, hx, rfl, h3, h4⟩
          · rw [hx] at HST
            have HNX := HST
            clear hr hx
            go_wp2
            exact ⟨rfl, by rw [HX.out, ← HNX]; exact ⟨rfl, HB.out.2.2.2.1.trans h3⟩⟩
          · have hlb := let_bd hx
            rw [hx] at HST
            dsimp only at HST
            have HB4 := hide (HB.out.step h3 h4 h2p h3p)
            clear hr hx h3 h4
            go_wp2_with fail
            refine (skip_any p t1 45 _ HB4.out.1 (by omega)).mono ?_; rintro e w5 ⟨rfl, h5, h6⟩
            cases hb45 : isB t1 45 with
            | true =>
              rw [if_pos hb45] at HST
              rw [show skipS t1 45 = t1.extract 1 t1.size from if_pos hb45] at h5
              have hex : (t1.extract 1 t1.size).size ≤ t1.size := by rw [ByteArray.size_extract]; omega
              have HB5 := hide (HB4.out.step h5 h6 h2p h3p)
              clear h5 h6 hb45
              go_wp2_with fail
              refine (let_any p _ _ HB5.out.1 (by omega)).mono ?_; rintro e w6 hr
              rcases hr.cases with ⟨hx, rfl, h3⟩ | ⟨b, t2, hx, rfl, h3, h4⟩
              · rw [hx] at HST
                have HNX := HST
                clear hr hx
                go_wp2
                exact ⟨rfl, by rw [HX.out, ← HNX]; exact ⟨rfl, HB5.out.2.2.2.1.trans h3⟩⟩
              · have hlb2 := let_bd hx
                rw [hx] at HST
                dsimp only at HST
                have HB6 := hide (HB5.out.step h3 h4 h2p h3p)
                clear hr hx h3 h4
                by_cases hba : b < a
                · rw [if_pos hba] at HST
                  have HNX := HST
                  have hba2 : (b : Int) < (a : Int) := by omega
                  go_wp2
                  exact ⟨rfl, by rw [HX.out, ← HNX]; exact ⟨rfl, HB6.out.2.2.2.1⟩⟩
                · rw [if_neg hba] at HST
                  have hba2 : ¬ (b : Int) < (a : Int) := by omega
                  have hbk := HB6.out.2.2.1
                  go_wp2_with fail
                  refine (span_any z3 1 S (.slice none 0 0) a b _ HB6.out.2.2.1 HB6.out.2.2.2.2 (by omega) (by omega)).mono ?_; rintro e w9 ⟨rfl, h9, k9⟩
                  have HB9 := hide (HB6.out.span h9 k9 h23 hp3 hzw (spanS_w HB6.out.2.2.2.2 a _))
                  have hs9 := sizeR_rd HB9.out.1
                  clear h9 k9 hbk
                  go_wp2_with fail
                  go_roundw
                  case rel => exact ⟨false, f, t2, _, rfl, by omega, by omega, by omega, hide HST, HB9⟩
                  case measure => rw [hs9, hsr]; omega
            | false =>
              rw [if_neg (by rw [hb45]; decide)] at HST
              rw [show skipS t1 45 = t1 from if_neg (by rw [hb45]; decide)] at h5
              have HB5 := hide (HB4.out.step h5 h6 h2p h3p)
              clear h5 h6 hb45
              have hbk := HB5.out.2.2.1
              go_wp2_with fail
              refine (span_any z3 1 S (.slice none 0 0) a a _ HB5.out.2.2.1 HB5.out.2.2.2.2 (by omega) (by omega)).mono ?_; rintro e w9 ⟨rfl, h9, k9⟩
              rw [show a + 1 - a = 1 by omega] at h9
              have HB9 := hide (HB5.out.span h9 k9 h23 hp3 hzw (spanS_w HB5.out.2.2.2.2 a 1))
              have hs9 := sizeR_rd HB9.out.1
              clear h9 k9 hbk
              go_wp2_with fail
              go_roundw
              case rel => exact ⟨false, f, t1, _, rfl, by omega, by omega, by omega, hide HST, HB9⟩
              case measure => rw [hs9, hsr]; omega
    · have hfst : fst = false := by cases fst with | true => exact absurd (.inl rfl) hgo | false => rfl
      have hnx : nextB t = 93 := by
        rcases Nat.lt_or_ge (nextB t) 93 with h1 | h1
        · exact absurd (.inr (by omega)) hgo
        · rcases Nat.lt_or_ge 93 (nextB t) with h2 | h2
          · exact absurd (.inr (by omega)) hgo
          · omega
      have HST := HL.out
      rw [braL, if_neg hgo] at HST
      rw [← HST] at HX
      dsimp only at HX
      subst hfst
      have hi93 := isB_next hnx
      have HI := hide hi93
      clear hgo HL hi93
      have HNB := hide hnx
      go_wp2_with fail
      refine (rnext_any p t _ HB.out.1 (by omega)).mono ?_; rintro e w3 ⟨rfl, rfl⟩
      rw [HNB.out]
      clear hnx
      go_wp2_with fail
      refine (need_yes p t 93 _ HB.out.1 (by omega) HI.out).mono ?_; rintro e w4 ⟨rfl, h1, h2⟩
      have HB4 := hide (HB.out.step h1 h2 h2p h3p)
      clear h1 h2 HB hsr HNB HI
      go_wp2_with fail
      obtain ⟨t4, ht4⟩ : ∃ q, t.extract 1 t.size = q := ⟨_, rfl⟩
      rw [ht4] at HB4 HX
      clear ht4 ht hf hf2 HST
      go_loopw [36] (fun jv wr => ∃ j : Nat, jv = .int .i64 j ∧ j ≤ 4 ∧ Hid (BraS w wr p z2 z3 t4 (cmpJ S (if nt = true then j else 0)))) (fun jv _ => 4 - (intOf jv).toNat)
      case atStart => exact ⟨0, rfl, by omega, by rw [show (if nt = true then 0 else 0) = 0 by split <;> rfl]; exact HB4⟩
      case round =>
        clear HB4
        obtain ⟨j, rfl, hj, HB⟩ := hrel
        by_cases hlt : j < 4
        · have hj0 : (0 : Int) ≤ (j : Int) := by omega
          have hj1 : (j : Int) < 4 := by omega
          cases nt with
          | false =>
            go_wp2
            go_roundw
            case rel => exact ⟨j + 1, by go_num, by omega, HB⟩
            case measure => simp [intOf]; omega
          | true =>
            rw [if_pos rfl] at HB
            have hlen := HB.out.2.2.2.2.1
            obtain ⟨x, hx⟩ : ∃ x, (cmpJ S j)[j]? = some x := ⟨_, List.getElem?_eq_getElem (by omega)⟩
            have hxb := HB.out.2.2.2.2.2 x (List.mem_of_getElem? hx)
            have c0 := HB.out.2.2.1.cell (ndL_at hx)
            have cf := fun i => HB.out.2.2.1.frozen i
            have HSN := hide (show (cmpJ S j).set j (18446744073709551615 - x) = cmpJ S (j + 1) by rw [cmpJ, hx]; rfl)
            have HW := hide HB.out.2.2.2.2
            go_wp2
            have hv := not_u64 x hxb
            rw [hv]
            have hbk := HB.out.2.2.1.set (1 + j) (.int .u64 ((18446744073709551615 - x : Nat) : Int))
            rw [ndL_set (by omega), HSN.out] at hbk
            exact ⟨⟨j + 1, by go_num, by omega, hide (by exact HB.out.span hbk (KeepR.setK z3 (1 + j) wr _) h23 hp3 hzw (by rw [← HSN.out]; exact cmp_w HW.out j x))⟩, by simp [intOf]; omega⟩
        · obtain rfl : j = 4 := by omega
          have hlen := HB.out.2.2.2.2.1
          have HX2 := hide (show braE s = some (Nd.mk 1 (cmpJ S (if nt = true then 4 else 0)) [], t4) from HX.out)
          obtain ⟨T, hT⟩ : ∃ T, cmpJ S (if nt = true then 4 else 0) = T := ⟨_, rfl⟩
          rw [hT] at HB HX2 hlen
          clear hT HX
          match T, hlen with
          | [x0, x1, x2, x3], _ =>
            have HW := hide HB.out.2.2.2.2
            have a0 := HB.out.2.2.1.cell (i := 0) rfl
            have a1 := HB.out.2.2.1.cell (i := 1) rfl
            have a2 := HB.out.2.2.1.cell (i := 2) rfl
            have a3 := HB.out.2.2.1.cell (i := 3) rfl
            have a4 := HB.out.2.2.1.cell (i := 4) rfl
            have a5 := HB.out.2.2.1.cell (i := 5) rfl
            have b0 := HB.out.2.1.cell (i := 0) rfl
            have b1 := HB.out.2.1.cell (i := 1) rfl
            have b2 := HB.out.2.1.cell (i := 2) rfl
            have b3 := HB.out.2.1.cell (i := 3) rfl
            have b4 := HB.out.2.1.cell (i := 4) rfl
            have b5 := HB.out.2.1.cell (i := 5) rfl
            have bf := fun i => HB.out.2.1.frozen i
            have h32 : z3 ≠ z2 := fun e => h23 e.symm
            go_wp2
            refine bodyPost_ret (results_cell_row rfl _ _ z2 27 (ndL 1 [x0, x1, x2, x3] (.slice none 0 0)).toArray (0, 0) _ rfl (nd_put HB.out.2.1 1 x0 x1 x2 x3 (.slice none 0 0)) Tryd.underlying27 rfl (by kernel_rfl)) rfl ?_
            rw [HX2.out]
            have hk := nd_keep wr z2 1 x0 x1 x2 x3 (.slice none 0 0)
            exact ⟨_, rfl, NdAt.leaf _ _ 1 HW.out, HB.out.1.keepZ hk (fun e => h2p e.symm), HB.out.2.2.2.1.own hk (by omega)⟩
end Go.Proofs.YtfamoikmfbpigaaDoor
