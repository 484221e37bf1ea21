/- regs.may. -/
import Derived.Test.YtfamoikmfbpigaaDoorFsame
import Derived.Deep.DeepCutAuto
import Derived.Deep.CutBlock
namespace Go.Proofs.YtfamoikmfbpigaaDoor
open Go.RowKit

/-- May a node be so, but for its kids? -/
def shapeB (k : Int) (S : List Nat) (n : Nat) : Bool :=
  (if k = 0 ∨ k = 1 then n == 0 else if k = 2 ∨ k = 3 then decide (2 ≤ n) else if 4 ≤ k ∧ k ≤ 6 then n == 1 else false) && (k == 1 || S == noSet)
def mayE : Nat → Nd → Bool
  | 0, _ => false
  | d + 1, .mk k S L => shapeB k S L.length && L.all (mayE d)
def BoolP (b : Bool) (w : World) (e : Ending) (w' : World) : Prop := e = .returned (.bool b) ∧ Below w.heap.size w w'
theorem BoolP.mk {a b : Bool} {w w' : World} {e : Ending} (h : a = b) (he : e = .returned (.bool b)) (hb : Below w.heap.size w w') : BoolP a w e w' := ⟨by rw [h]; exact he, hb⟩
theorem may_kid {d : Nat} {k : Int} {S : List Nat} {L : List Nd} {j : Nat} {x : Nd} (hx : L[j]? = some x) (h : mayE d x = false) : mayE (d + 1) (.mk k S L) = false := by
  unfold mayE
  rw [Bool.and_eq_false_iff]
  refine .inr (List.all_eq_false.2 ⟨x, List.mem_of_getElem? hx, by rw [h]; decide⟩)
theorem may_all {d : Nat} {k : Int} {S : List Nat} {L : List Nd} (hs : shapeB k S L.length = true) (h : ∀ (i : Nat) (x : Nd), L[i]? = some x → mayE d x = true) : mayE (d + 1) (.mk k S L) = true := by
  unfold mayE
  rw [List.all_eq_true.2 (fun x hx => by obtain ⟨i, hi⟩ := List.getElem?_of_mem hx; exact h i x hi), Bool.and_true, hs]
theorem may_shape {d : Nat} {k : Int} {S : List Nat} {L : List Nd} (h : shapeB k S L.length = false) : mayE d (.mk k S L) = false := by
  cases d with
  | zero => rfl
  | succ d => unfold mayE; rw [h, Bool.false_and]
theorem eq4_zero (x0 x1 x2 x3 : Nat) : eq4 (x0 : Int) x1 x2 x3 0 0 0 0 = ([x0, x1, x2, x3] == noSet) := by
  rw [Bool.eq_iff_iff]
  simp [eq4, noSet]
  omega
theorem shape_not {k : Int} {S : List Nat} {n : Nat} (h : ¬ (0 ≤ k ∧ k ≤ 6)) : shapeB k S n = false := by
  unfold shapeB
  rw [if_neg (by omega), if_neg (by omega), if_neg (by omega), Bool.false_and]
theorem shape_set {k : Int} {S : List Nat} {n : Nat} (h : k ≠ 1) (hs : (S == noSet) = false) : shapeB k S n = false := by
  unfold shapeB
  rw [hs, show (k == 1) = false by simpa using h]
  simp
theorem shape_n01 {k : Int} {S : List Nat} {n : Nat} (h : k = 0 ∨ k = 1) (hn : n ≠ 0) : shapeB k S n = false := by
  unfold shapeB
  rw [if_pos h, show (n == 0) = false by simpa using hn, Bool.false_and]
theorem shape_n23 {k : Int} {S : List Nat} {n : Nat} (h : k = 2 ∨ k = 3) (hn : n < 2) : shapeB k S n = false := by
  unfold shapeB
  rw [if_neg (by omega), if_pos h, decide_eq_false (by omega), Bool.false_and]
theorem shape_n46 {k : Int} {S : List Nat} {n : Nat} (h : k = 4 ∨ k = 5 ∨ k = 6) (hn : n ≠ 1) : shapeB k S n = false := by
  unfold shapeB
  rw [if_neg (by omega), if_neg (by omega), if_pos (by omega), show (n == 1) = false by simpa using hn, Bool.false_and]
theorem shape_y01 {k : Int} {S : List Nat} (h : k = 0 ∨ k = 1) (hs : k = 1 ∨ (S == noSet) = true) : shapeB k S 0 = true := by
  unfold shapeB
  rw [if_pos h]
  rcases hs with rfl | hs
  · rfl
  · rw [hs]; simp
theorem shape_y23 {k : Int} {S : List Nat} {n : Nat} (h : k = 2 ∨ k = 3) (hn : 2 ≤ n) (hs : (S == noSet) = true) : shapeB k S n = true := by
  unfold shapeB
  rw [if_neg (by omega), if_pos h, hs, decide_eq_true hn]; simp
theorem shape_y46 {k : Int} {S : List Nat} (h : k = 4 ∨ k = 5 ∨ k = 6) (hs : (S == noSet) = true) : shapeB k S 1 = true := by
  unfold shapeB
  rw [if_neg (by omega), if_neg (by omega), if_pos (by omega), hs]; simp
def okB (d : Nat) (k : Int) (S : List Nat) (n : Nat) : Bool := decide (0 < d) && shapeB k S n
theorem may_bad {d : Nat} {k : Int} {S : List Nat} {L : List Nd} (h : okB d k S L.length = false) : mayE d (.mk k S L) = false := by
  cases d with
  | zero => rfl
  | succ d =>
    unfold okB at h
    rw [decide_eq_true (Nat.succ_pos d), Bool.true_and] at h
    exact may_shape h
theorem ok_pos {d : Nat} {k : Int} {S : List Nat} {n : Nat} (h : okB d k S n = true) : ∃ e, d = e + 1 ∧ shapeB k S n = true := by
  unfold okB at h
  rw [Bool.and_eq_true] at h
  obtain ⟨h1, h2⟩ := h
  exact ⟨d - 1, by have := of_decide_eq_true h1; omega, h2⟩
theorem ok_zero {k : Int} {S : List Nat} {n : Nat} : okB 0 k S n = false := rfl
theorem ok_no {d : Nat} {k : Int} {S : List Nat} {n : Nat} (h : shapeB k S n = false) : okB d k S n = false := by unfold okB; rw [h, Bool.and_false]
theorem ok_yes {d : Nat} {k : Int} {S : List Nat} {n : Nat} (hd : 0 < d) (h : shapeB k S n = true) : okB d k S n = true := by unfold okB; rw [h, decide_eq_true hd]; rfl
/-- What the kind asks of the kids. -/
def KindL (k : Int) (m lo hi : Nat) : Prop := ((k = 0 ∨ k = 1) ∧ lo = 0 ∧ hi = 0) ∨ ((k = 2 ∨ k = 3) ∧ lo = 2 ∧ hi = m) ∨ ((k = 4 ∨ k = 5 ∨ k = 6) ∧ lo = 1 ∧ hi = 1)
theorem kind_no {k : Int} {S : List Nat} {m lo hi : Nat} (h : KindL k m lo hi) (hm : m < lo ∨ hi < m) : shapeB k S m = false := by
  rcases h with ⟨h, rfl, rfl⟩ | ⟨h, rfl, rfl⟩ | ⟨h, rfl, rfl⟩
  · exact shape_n01 h (by omega)
  · exact shape_n23 h (by omega)
  · exact shape_n46 h (by omega)
theorem kind_yes {k : Int} {S : List Nat} {m lo hi : Nat} (h : KindL k m lo hi) (h1 : lo ≤ m) (h2 : m ≤ hi) (hs : k = 1 ∨ (S == noSet) = true) : shapeB k S m = true := by
  rcases h with ⟨h, rfl, rfl⟩ | ⟨h, rfl, rfl⟩ | ⟨h, rfl, rfl⟩
  · obtain rfl : m = 0 := by omega
    exact shape_y01 h hs
  · exact shape_y23 h h1 (hs.resolve_left (by omega))
  · obtain rfl : m = 1 := by omega
    exact shape_y46 h (hs.resolve_left (by omega))
set_option maxHeartbeats 8000000 in
set_option maxRecDepth 100000 in
theorem may_any : ∀ (f : Nat) (n : Nd) (d : Nat) (cs : List Value) (P : Nat → Prop) (w : World), szN n < f → d ≤ 1000 → NdX P w n cs →
    Calls Tryd.prog 29 #[.agg cs.toArray, .int .i64 (d : Int)] w (BoolP (mayE d n) w)
  | 0, _, _, _, _, _, hf, _, _ => absurd hf (by omega)
  | f + 1, .mk k S L, d, cs, P, w, hf, hd, hn => by
    obtain ⟨x0, x1, x2, x3, A, cap, rfl, rfl, hw, hc, hcm, hkids⟩ := hn.parts
    have IH0 := hide (fun (d : Nat) (hd : d ≤ 1000) (n : Nd) (cs : List Value) (W : World) (h1 : szN n < f) (h2 : NdX P W n cs) => may_any f n d cs P W h1 hd h2)
    have HK := hide hkids
    obtain ⟨m, hm0⟩ : ∃ m, L.length = m := ⟨_, rfl⟩
    have HM := hide hm0
    have HF := hide (show szL L < f by unfold szN at hf; omega)
    have HB0 := hide (show Below w.heap.size w (w.alloc (.cells (ndL k [x0, x1, x2, x3] (.slice A m cap)).toArray 27)) from (Below.refl _ _).alloc (Nat.le_refl _) _)
    have HBL := hide (Blk.new w 27 (ndL k [x0, x1, x2, x3] (.slice A m cap)))
    have HE := hide (eq4_zero x0 x1 x2 x3)
    rw [hm0] at hc ⊢
    clear hn hkids hw hf hm0
    unfold maxLen at hcm
    rw [show (ndL k [x0, x1, x2, x3] (.slice A m cap)).toArray = #[.int .i64 k, .int .u64 (x0 : Int), .int .u64 (x1 : Int), .int .u64 (x2 : Int), .int .u64 (x3 : Int), .slice A m cap] from rfl]
    go_enter Tryd.func29, Tryd.ntmps29
    go_upto_block 0 with (fail)
    rw [show w.alloc (.cells #[.int .i64 k, .int .u64 (x0 : Int), .int .u64 (x1 : Int), .int .u64 (x2 : Int), .int .u64 (x3 : Int), .slice A m cap] 27) = w.alloc (.cells (ndL k [x0, x1, x2, x3] (.slice A m cap)).toArray 27) from rfl]
    obtain ⟨W0, hW0⟩ : ∃ W, w.alloc (.cells (ndL k [x0, x1, x2, x3] (.slice A m cap)).toArray 27) = W := ⟨_, rfl⟩
    rw [hW0] at HBL HB0 ⊢
    clear hW0
    have a0 := HBL.out.cell (i := 0) rfl
    have a1 := HBL.out.cell (i := 1) rfl
    have a2 := HBL.out.cell (i := 2) rfl
    have a3 := HBL.out.cell (i := 3) rfl
    have a4 := HBL.out.cell (i := 4) rfl
    have a5 := HBL.out.cell (i := 5) rfl
    go_cut [5, 6] (fun a b wx => ∃ lo hi : Nat, a = .int .i64 lo ∧ b = .int .i64 hi ∧ lo ≤ 2 ∧ Hid (KindL k m lo hi) ∧ Hid (Blk wx w.heap.size 27 (ndL k [x0, x1, x2, x3] (.slice A m cap))) ∧ Hid (Below w.heap.size w wx))
    case first =>
      by_cases hk0 : k = 0
      · subst hk0
        go_wp2
        go_meet
        exact ⟨0, 0, rfl, rfl, by omega, hide (.inl ⟨by omega, rfl, rfl⟩), HBL, HB0⟩
      by_cases hk1 : k = 1
      · subst hk1
        go_wp2
        go_meet
        exact ⟨0, 0, rfl, rfl, by omega, hide (.inl ⟨by omega, rfl, rfl⟩), HBL, HB0⟩
      by_cases hk2 : k = 2
      · subst hk2
        go_wp2
        go_region
        go_wp2
        go_meet
        exact ⟨2, m, rfl, rfl, by omega, hide (.inr (.inl ⟨by omega, rfl, rfl⟩)), hide (show Blk W0.drew _ _ _ from HBL.out), hide (Below.drew HB0.out)⟩
      by_cases hk3 : k = 3
      · subst hk3
        go_wp2
        go_region
        go_wp2
        go_meet
        exact ⟨2, m, rfl, rfl, by omega, hide (.inr (.inl ⟨by omega, rfl, rfl⟩)), hide (show Blk W0.drew _ _ _ from HBL.out), hide (Below.drew HB0.out)⟩
      by_cases hk4 : k = 4
      · subst hk4
        go_wp2
        go_meet
        exact ⟨1, 1, rfl, rfl, by omega, hide (.inr (.inr ⟨by omega, rfl, rfl⟩)), HBL, HB0⟩
      by_cases hk5 : k = 5
      · subst hk5
        go_wp2
        go_meet
        exact ⟨1, 1, rfl, rfl, by omega, hide (.inr (.inr ⟨by omega, rfl, rfl⟩)), HBL, HB0⟩
      by_cases hk6 : k = 6
      · subst hk6
        go_wp2
        go_meet
        exact ⟨1, 1, rfl, rfl, by omega, hide (.inr (.inr ⟨by omega, rfl, rfl⟩)), HBL, HB0⟩
      have HR := hide (show mayE d (.mk k [x0, x1, x2, x3] L) = false from may_shape (shape_not (by omega)))
      have p0 : (k == 0) = false := by simp; omega
      have p1 : (k == 1) = false := by simp; omega
      have p2 : (k == 2) = false := by simp; omega
      have p3 : (k == 3) = false := by simp; omega
      have p4 : (k == 4) = false := by simp; omega
      have p5 : (k == 5) = false := by simp; omega
      have p6 : (k == 6) = false := by simp; omega
      clear hk0 hk1 hk2 hk3 hk4 hk5 hk6
      go_wp2
      go_ret
      exact BoolP.mk HR.out rfl HB0.out
    case rest =>
      obtain ⟨lo, hi, rfl, rfl, hlo, HKL, HX1, HB1⟩ := hcut
      clear HBL HB0 a0 a1 a2 a3 a4 a5
      have a0 := HX1.out.cell (i := 0) rfl
      have a1 := HX1.out.cell (i := 1) rfl
      have a2 := HX1.out.cell (i := 2) rfl
      have a3 := HX1.out.cell (i := 3) rfl
      have a4 := HX1.out.cell (i := 4) rfl
      have a5 := HX1.out.cell (i := 5) rfl
      go_upto_region 13 with (fail)
      go_cut [50] (fun v wx => v = .bool (!okB d k [x0, x1, x2, x3] m) ∧ wx = wc)
      case first =>
        by_cases hd0 : d = 0
        · subst hd0
          rw [show ((0 : Nat) : Int) = (0 : Int) from rfl]
          go_wp2
          go_meet
          exact ⟨by rw [ok_zero]; rfl, rfl⟩
        have q1 : ¬ (d : Int) < 1 := by omega
        have hd1 : 0 < d := by omega
        clear hd0
        by_cases h1 : m < lo
        · have HR := hide (ok_no (d := d) (kind_no (S := [x0, x1, x2, x3]) HKL.out (.inl h1)))
          have q2 : (m : Int) < (lo : Int) := by omega
          clear h1
          go_wp2
          go_meet
          exact ⟨by rw [HR.out]; rfl, rfl⟩
        have q2 : ¬ (m : Int) < (lo : Int) := by omega
        by_cases h2 : hi < m
        · have HR := hide (ok_no (d := d) (kind_no (S := [x0, x1, x2, x3]) HKL.out (.inr h2)))
          have q3 : (hi : Int) < (m : Int) := by omega
          clear h1 h2
          go_wp2
          go_meet
          exact ⟨by rw [HR.out]; rfl, rfl⟩
        have q3 : ¬ (hi : Int) < (m : Int) := by omega
        by_cases hk1 : k = 1
        · subst hk1
          have HR := hide (ok_yes hd1 (kind_yes (S := [x0, x1, x2, x3]) HKL.out (by omega) (by omega) (.inl rfl)))
          clear h1 h2
          go_wp2
          go_meet
          exact ⟨by rw [HR.out]; rfl, rfl⟩
        have q4 : (k != 1) = true := by simpa using hk1
        cases hs : ([x0, x1, x2, x3] == noSet) with
        | false =>
          have HR := hide (ok_no (d := d) (shape_set (n := m) hk1 hs))
          have q5 := HE.out
          rw [hs] at q5
          clear h1 h2 hk1 hs
          go_wp2
          go_meet
          exact ⟨by rw [HR.out]; rfl, rfl⟩
        | true =>
          have HR := hide (ok_yes hd1 (kind_yes HKL.out (by omega) (by omega) (.inr hs)))
          have q5 := HE.out
          rw [hs] at q5
          clear h1 h2 hk1 hs
          go_wp2
          go_meet
          exact ⟨by rw [HR.out]; rfl, rfl⟩
      case rest =>
        obtain ⟨rfl, rfl⟩ := hcut
        clear HKL
        cases hok : okB d k [x0, x1, x2, x3] m with
        | false =>
          have HR := hide (may_bad (L := L) (by rw [HM.out]; exact hok))
          rw [show (!false) = true from rfl]
          clear hok
          go_wp2
          go_ret
          exact BoolP.mk HR.out rfl HB1.out
        | true =>
          rw [show (!true) = false from rfl]
          obtain ⟨d, rfl, hsh⟩ := ok_pos hok
          have HSH := hide hsh
          have IH := hide (IH0.out d (by omega))
          clear hok hsh IH0 HE
          rw [show ((d + 1 : Nat) : Int) = (d : Int) + 1 from rfl]
          go_wp2
          go_loopw [54] (fun iv wr => ∃ j : Nat, iv = .int .i64 j ∧ j ≤ m ∧ Hid (∀ i x, i < j → L[i]? = some x → mayE d x = true) ∧ Hid (Blk wr w.heap.size 27 (ndL k [x0, x1, x2, x3] (.slice A m cap))) ∧ Hid (Below w.heap.size w wr)) (fun iv _ => m - (intOf iv).toNat)
          case atStart => exact ⟨0, rfl, by omega, hide (fun i x h => absurd h (by omega)), HX1, HB1⟩
          case round =>
            clear HX1 HB1
            obtain ⟨j, rfl, hj, HY, HX, HB⟩ := hrel
            have a5 := HX.out.cell (i := 5) rfl
            by_cases hlt : j < m
            · obtain ⟨x, hx⟩ : ∃ x, L[j]? = some x := ⟨_, List.getElem?_eq_getElem (by rw [HM.out]; exact hlt)⟩
              obtain ⟨b, o, cx, rfl, hb, -, hcx, hnx⟩ := HK.out.get j x hx
              obtain ⟨kx, u0, u1, u2, u3, Ax, mx, capx, rfl, -, -⟩ := hnx.form
              have HCX := hide (fun (W : World) (hW : Below w.heap.size w W) i u (hu : (ndL kx [u0, u1, u2, u3] (.slice Ax mx capx))[i]? = some u) => show W.cell? ⟨b, o + j * 6 + i, none⟩ = some u from (hW.cell (p := ⟨b, o + j * 6 + i, none⟩) hb.2).trans (by have := hcx i u hu; rw [Nat.zero_add] at this; exact this))
              have hsx : szN x < f := Nat.lt_of_le_of_lt (szL_at hx) HF.out
              have HI := hide (fun (W : World) (hW : Below w.heap.size w W) => IH.out x _ W hsx (hnx.low hW))
              have HXJ := hide hx
              clear hx hcx hnx hsx
              have c0 : wr.cell? ⟨b, o + j * 6, none⟩ = some (.int .i64 kx) := HCX.out wr HB.out 0 _ rfl
              have c1 := HCX.out wr HB.out 1 _ rfl
              have c2 := HCX.out wr HB.out 2 _ rfl
              have c3 := HCX.out wr HB.out 3 _ rfl
              have c4 := HCX.out wr HB.out 4 _ rfl
              have c5 := HCX.out wr HB.out 5 _ rfl
              have hj0 : (0 : Int) ≤ (j : Int) := by omega
              have hj1 : (j : Int) < (m : Int) := by omega
              have hbx : Below wr.heap.size wr (wr.alloc (.cells #[.int .i64 kx, .int .u64 (u0 : Int), .int .u64 (u1 : Int), .int .u64 (u2 : Int), .int .u64 (u3 : Int), .slice Ax mx capx] 27)) := (Below.refl _ _).alloc (Nat.le_refl _) _
              have HBX := hide hbx
              clear hbx
              go_wp2_with fail
              refine (HI.out _ (HB.out.trans (HBX.out.mono HB.out.size))).mono ?_; rintro e w9 ⟨he, hb9⟩
              have HX9 := hide ((HX.out.below HBX.out).below hb9)
              have HB9 := hide ((HB.out.trans (HBX.out.mono HB.out.size)).trans (hb9.mono (HB.out.trans (HBX.out.mono HB.out.size)).size))
              clear hb9 HX HB HBX HI a5 c0 c1 c2 c3 c4 c5
              cases hv : mayE d x with
              | true =>
                rw [hv] at he
                have he : e = .returned (.bool true) := he
                subst he
                have HY2 := hide (show ∀ i y, i < j + 1 → L[i]? = some y → mayE d y = true from fun i y hi hy => by
                  rcases Nat.lt_or_ge i j with h | h
                  · exact HY.out i y h hy
                  · obtain rfl : i = j := by omega
                    rw [HXJ.out] at hy; injection hy with hy; rw [← hy]; exact hv)
                clear hv HXJ
                go_wp2
                go_roundw
                case rel => exact ⟨j + 1, by go_num, by omega, HY2, HX9, HB9⟩
                case measure => simp [intOf]; omega
              | false =>
                rw [hv] at he
                have he : e = .returned (.bool false) := he
                subst he
                have HR := hide (show mayE (d + 1) (.mk k [x0, x1, x2, x3] L) = false from may_kid HXJ.out hv)
                clear hv HXJ
                go_wp2
                go_ret
                exact BoolP.mk HR.out rfl HB9.out
            · obtain rfl : j = m := by omega
              have HR := hide (show mayE (d + 1) (.mk k [x0, x1, x2, x3] L) = true from may_all (by rw [HM.out]; exact HSH.out) (fun i y hy => HY.out i y (by have := (List.getElem?_eq_some_iff.1 hy).1; rw [HM.out] at this; exact this) hy))
              go_wp2
              go_ret
              exact BoolP.mk HR.out rfl HB.out
end Go.Proofs.YtfamoikmfbpigaaDoor
