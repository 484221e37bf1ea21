/- limnerref10.may. -/
import Derived.Test.YtfamoikmfbpigaaDoorFmay
namespace Go.Proofs.YtfamoikmfbpigaaDoor
open Go.RowKit

mutual
def rmayE : Nd → Bool
  | .mk k S L => shapeB k S L.length && rmayL L
def rmayL : List Nd → Bool
  | [] => true
  | x :: l => rmayE x && rmayL l
end
theorem rmayL_all : ∀ (L : List Nd), rmayL L = L.all rmayE
  | [] => rfl
  | x :: l => by rw [rmayL, List.all_cons, rmayL_all l]
theorem rmay_kid {k : Int} {S : List Nat} {L : List Nd} {j : Nat} {x : Nd} (hx : L[j]? = some x) (h : rmayE x = false) : rmayE (.mk k S L) = false := by
  rw [rmayE, rmayL_all, Bool.and_eq_false_iff]
  exact .inr (List.all_eq_false.2 ⟨x, List.mem_of_getElem? hx, by rw [h]; decide⟩)
theorem rmay_all {k : Int} {S : List Nat} {L : List Nd} (hs : shapeB k S L.length = true) (h : ∀ (i : Nat) (x : Nd), L[i]? = some x → rmayE x = true) : rmayE (.mk k S L) = true := by
  rw [rmayE, rmayL_all, List.all_eq_true.2 (fun x hx => by obtain ⟨i, hi⟩ := List.getElem?_of_mem hx; exact h i x hi), Bool.and_true, hs]
theorem rmay_shape {k : Int} {S : List Nat} {L : List Nd} (h : shapeB k S L.length = false) : rmayE (.mk k S L) = false := by rw [rmayE, h, Bool.false_and]
def cntB (k : Int) (n : Nat) : Bool := if k = 0 ∨ k = 1 then n == 0 else if k = 2 ∨ k = 3 then decide (2 ≤ n) else if 4 ≤ k ∧ k ≤ 6 then n == 1 else false
theorem shape_cnt (k : Int) (S : List Nat) (n : Nat) : shapeB k S n = (cntB k n && (k == 1 || S == noSet)) := rfl
theorem cnt_not {k : Int} {n : Nat} (h : ¬ (0 ≤ k ∧ k ≤ 6)) : cntB k n = false := by
  unfold cntB
  rw [if_neg (by omega), if_neg (by omega), if_neg (by omega)]
theorem cnt_01 {k : Int} {n : Nat} (h : k = 0 ∨ k = 1) : cntB k n = (n == 0) := by unfold cntB; rw [if_pos h]
theorem cnt_23 {k : Int} {n : Nat} (h : k = 2 ∨ k = 3) : cntB k n = decide (2 ≤ n) := by unfold cntB; rw [if_neg (by omega), if_pos h]
theorem cnt_46 {k : Int} {n : Nat} (h : 4 ≤ k ∧ k ≤ 6) : cntB k n = (n == 1) := by unfold cntB; rw [if_neg (by omega), if_neg (by omega), if_pos h]
set_option maxHeartbeats 8000000 in
set_option maxRecDepth 100000 in
theorem rmay_any : ∀ (f : Nat) (n : Nd) (cs : List Value) (P : Nat → Prop) (w : World), szN n < f → NdX P w n cs →
    Calls Tryd.prog 31 #[.agg cs.toArray] w (BoolP (rmayE n) w)
  | 0, _, _, _, _, hf, _ => absurd hf (by omega)
  | f + 1, .mk k S L, cs, P, w, hf, hn => by
    obtain ⟨x0, x1, x2, x3, A, cap, rfl, rfl, hw, hc, hcm, hkids⟩ := hn.parts
    have IH := hide (fun (n : Nd) (cs : List Value) (W : World) (h1 : szN n < f) (h2 : NdX P W n cs) => rmay_any f n cs P W h1 h2)
    have HK := hide hkids
    obtain ⟨m, hm0⟩ : ∃ m, L.length = m := ⟨_, rfl⟩
    have HM := hide hm0
    have HF := hide (show szL L < f by unfold szN at hf; omega)
    have HB0 := hide (show Below w.heap.size w (w.alloc (.cells (ndL k [x0, x1, x2, x3] (.slice A m cap)).toArray 33)) from (Below.refl _ _).alloc (Nat.le_refl _) _)
    have HBL := hide (Blk.new w 33 (ndL k [x0, x1, x2, x3] (.slice A m cap)))
    have HE := hide (eq4_zero x0 x1 x2 x3)
    rw [hm0] at hc ⊢
    clear hn hkids hw hf hm0
    unfold maxLen at hcm
    rw [show (ndL k [x0, x1, x2, x3] (.slice A m cap)).toArray = #[.int .i64 k, .int .u64 (x0 : Int), .int .u64 (x1 : Int), .int .u64 (x2 : Int), .int .u64 (x3 : Int), .slice A m cap] from rfl]
    go_enter Tryd.func31, Tryd.ntmps31
    go_upto_region 1 with (fail)
    rw [show w.alloc (.cells #[.int .i64 k, .int .u64 (x0 : Int), .int .u64 (x1 : Int), .int .u64 (x2 : Int), .int .u64 (x3 : Int), .slice A m cap] 33) = w.alloc (.cells (ndL k [x0, x1, x2, x3] (.slice A m cap)).toArray 33) from rfl]
    obtain ⟨W0, hW0⟩ : ∃ W, w.alloc (.cells (ndL k [x0, x1, x2, x3] (.slice A m cap)).toArray 33) = W := ⟨_, rfl⟩
    rw [hW0] at HBL HB0 ⊢
    clear hW0
    have a0 := HBL.out.cell (i := 0) rfl
    have a1 := HBL.out.cell (i := 1) rfl
    have a2 := HBL.out.cell (i := 2) rfl
    have a3 := HBL.out.cell (i := 3) rfl
    have a4 := HBL.out.cell (i := 4) rfl
    have a5 := HBL.out.cell (i := 5) rfl
    go_cut [49] (fun v wx => v = .bool (!cntB k m) ∧ wx = W0)
    case first =>
      by_cases h0 : k < 0
      · have HR := hide (show cntB k m = false from cnt_not (by omega))
        go_wp2
        go_meet
        exact ⟨by rw [HR.out]; rfl, rfl⟩
      by_cases h6 : 6 < k
      · have HR := hide (show cntB k m = false from cnt_not (by omega))
        go_wp2
        go_meet
        exact ⟨by rw [HR.out]; rfl, rfl⟩
      by_cases h2 : k < 2
      · by_cases hm : m = 0
        · subst hm
          have q1 : ¬ (0 : Int) < ((0 : Nat) : Int) := by omega
          have q2 : ¬ 4 ≤ k := by omega
          have q3 : (k == 2) = false := by simp; omega
          have q4 : (k == 3) = false := by simp; omega
          have HR := hide (show cntB k 0 = true from by rw [cnt_01 (by omega)]; rfl)
          go_wp2
          go_meet
          exact ⟨by rw [HR.out]; rfl, rfl⟩
        have q1 : (0 : Int) < (m : Int) := by omega
        have HR := hide (show cntB k m = false from by rw [cnt_01 (by omega)]; simpa using hm)
        clear hm
        go_wp2
        go_meet
        exact ⟨by rw [HR.out]; rfl, rfl⟩
      by_cases h4 : 4 ≤ k
      · have q3 : (k == 2) = false := by simp; omega
        have q4 : (k == 3) = false := by simp; omega
        by_cases hm : m = 1
        · have q1 : ((m : Int) != 1) = false := by simp; omega
          have HR := hide (show cntB k m = true from by rw [cnt_46 (by omega), hm]; rfl)
          clear hm
          go_wp2
          go_meet
          exact ⟨by rw [HR.out]; rfl, rfl⟩
        have q1 : ((m : Int) != 1) = true := by simp; omega
        have HR := hide (show cntB k m = false from by rw [cnt_46 (by omega)]; simpa using hm)
        clear hm
        go_wp2
        go_meet
        exact ⟨by rw [HR.out]; rfl, rfl⟩
      by_cases hk2 : k = 2
      · subst hk2
        by_cases hm : m < 2
        · have q1 : (m : Int) < 2 := by omega
          have HR := hide (show cntB 2 m = false from by rw [cnt_23 (by omega)]; exact decide_eq_false (by omega))
          clear hm
          go_wp2
          go_meet
          exact ⟨by rw [HR.out]; rfl, rfl⟩
        have q1 : ¬ (m : Int) < 2 := by omega
        have HR := hide (show cntB 2 m = true from by rw [cnt_23 (by omega)]; exact decide_eq_true (by omega))
        clear hm
        go_wp2
        go_meet
        exact ⟨by rw [HR.out]; rfl, rfl⟩
      obtain rfl : k = 3 := by omega
      by_cases hm : m < 2
      · have q1 : (m : Int) < 2 := by omega
        have HR := hide (show cntB 3 m = false from by rw [cnt_23 (by omega)]; exact decide_eq_false (by omega))
        clear hm
        go_wp2
        go_meet
        exact ⟨by rw [HR.out]; rfl, rfl⟩
      have q1 : ¬ (m : Int) < 2 := by omega
      have HR := hide (show cntB 3 m = true from by rw [cnt_23 (by omega)]; exact decide_eq_true (by omega))
      clear hm
      go_wp2
      go_meet
      exact ⟨by rw [HR.out]; rfl, rfl⟩
    case rest =>
      obtain ⟨rfl, rfl⟩ := hcut
      cases hcn : cntB k m with
      | false =>
        have HR := hide (show rmayE (.mk k [x0, x1, x2, x3] L) = false from rmay_shape (by rw [HM.out, shape_cnt, hcn]; rfl))
        rw [show (!false) = true from rfl]
        clear hcn
        go_wp2
        go_ret
        exact BoolP.mk HR.out rfl HB0.out
      | true =>
        rw [show (!true) = false from rfl]
        have HCN := hide hcn
        clear hcn
        go_upto_region 3 with (fail)
        go_cut [58] (fun v wx => v = .bool (!(k == 1 || [x0, x1, x2, x3] == noSet)) ∧ wx = wc)
        case first =>
          by_cases hk1 : k = 1
          · subst hk1
            go_wp2
            go_meet
            exact ⟨by simp, rfl⟩
          have q4 : (k != 1) = true := by simpa using hk1
          have HK1 := hide (show (k == 1) = false by simpa using hk1)
          cases hs : ([x0, x1, x2, x3] == noSet) with
          | false =>
            have q5 := HE.out
            rw [hs] at q5
            have HS := hide hs
            clear hk1 hs
            go_wp2
            go_meet
            exact ⟨by rw [HK1.out, HS.out]; rfl, rfl⟩
          | true =>
            have q5 := HE.out
            rw [hs] at q5
            have HS := hide hs
            clear hk1 hs
            go_wp2
            go_meet
            exact ⟨by rw [HK1.out, HS.out]; rfl, rfl⟩
        case rest =>
          obtain ⟨rfl, rfl⟩ := hcut
          cases hs : (k == 1 || [x0, x1, x2, x3] == noSet) with
          | false =>
            have HR := hide (show rmayE (.mk k [x0, x1, x2, x3] L) = false from rmay_shape (by rw [shape_cnt, hs, Bool.and_false]))
            rw [show (!false) = true from rfl]
            clear hs
            go_wp2
            go_ret
            exact BoolP.mk HR.out rfl HB0.out
          | true =>
            rw [show (!true) = false from rfl]
            have HSH := hide (show shapeB k [x0, x1, x2, x3] m = true by rw [shape_cnt, HCN.out, hs]; rfl)
            clear hs HE HCN
            go_wp2
            go_loopw [3] (fun iv wr => ∃ j : Nat, iv = .int .i64 j ∧ j ≤ m ∧ Hid (∀ i x, i < j → L[i]? = some x → rmayE x = true) ∧ Hid (Blk wr w.heap.size 33 (ndL k [x0, x1, x2, x3] (.slice A m cap))) ∧ Hid (Below w.heap.size w wr)) (fun iv _ => m - (intOf iv).toNat)
            case atStart => exact ⟨0, rfl, by omega, hide (fun i x h => absurd h (by omega)), HBL, HB0⟩
            case round =>
              clear HBL HB0
              obtain ⟨j, rfl, hj, HY, HX, HB⟩ := hrel
              have a5 := HX.out.cell (i := 5) rfl
              by_cases hlt : j < m
              · obtain ⟨x, hx⟩ : ∃ x, L[j]? = some x := ⟨_, List.getElem?_eq_getElem (by rw [HM.out]; exact hlt)⟩
                obtain ⟨b, o, cx, rfl, hb, -, hcx, hnx⟩ := HK.out.get j x hx
                obtain ⟨kx, u0, u1, u2, u3, Ax, mx, capx, rfl, -, -⟩ := hnx.form
                have HCX := hide (fun (W : World) (hW : Below w.heap.size w W) i u (hu : (ndL kx [u0, u1, u2, u3] (.slice Ax mx capx))[i]? = some u) => show W.cell? ⟨b, o + j * 6 + i, none⟩ = some u from (hW.cell (p := ⟨b, o + j * 6 + i, none⟩) hb.2).trans (by have := hcx i u hu; rw [Nat.zero_add] at this; exact this))
                have hsx : szN x < f := Nat.lt_of_le_of_lt (szL_at hx) HF.out
                have HI := hide (fun (W : World) (hW : Below w.heap.size w W) => IH.out x _ W hsx (hnx.low hW))
                have HXJ := hide hx
                clear hx hcx hnx hsx
                have c0 : wr.cell? ⟨b, o + j * 6, none⟩ = some (.int .i64 kx) := HCX.out wr HB.out 0 _ rfl
                have c1 := HCX.out wr HB.out 1 _ rfl
                have c2 := HCX.out wr HB.out 2 _ rfl
                have c3 := HCX.out wr HB.out 3 _ rfl
                have c4 := HCX.out wr HB.out 4 _ rfl
                have c5 := HCX.out wr HB.out 5 _ rfl
                have hj0 : (0 : Int) ≤ (j : Int) := by omega
                have hj1 : (j : Int) < (m : Int) := by omega
                go_wp2_with fail
                refine (HI.out _ HB.out).mono ?_; rintro e w9 ⟨he, hb9⟩
                have HX9 := hide (HX.out.below hb9)
                have HB9 := hide (HB.out.trans (hb9.mono HB.out.size))
                clear hb9 HX HB HI a5 c0 c1 c2 c3 c4 c5
                cases hv : rmayE x with
                | true =>
                  rw [hv] at he
                  have he : e = .returned (.bool true) := he
                  subst he
                  have HY2 := hide (show ∀ i y, i < j + 1 → L[i]? = some y → rmayE y = true from fun i y hi hy => by
                    rcases Nat.lt_or_ge i j with h | h
                    · exact HY.out i y h hy
                    · obtain rfl : i = j := by omega
                      rw [HXJ.out] at hy; injection hy with hy; rw [← hy]; exact hv)
                  clear hv HXJ
                  go_wp2
                  go_roundw
                  case rel => exact ⟨j + 1, by go_num, by omega, HY2, HX9, HB9⟩
                  case measure => simp [intOf]; omega
                | false =>
                  rw [hv] at he
                  have he : e = .returned (.bool false) := he
                  subst he
                  have HR := hide (show rmayE (.mk k [x0, x1, x2, x3] L) = false from rmay_kid HXJ.out hv)
                  clear hv HXJ
                  go_wp2
                  go_ret
                  exact BoolP.mk HR.out rfl HB9.out
              · obtain rfl : j = m := by omega
                have HR := hide (show rmayE (.mk k [x0, x1, x2, x3] L) = true from rmay_all (by rw [HM.out]; exact HSH.out) (fun i y hy => HY.out i y (by have := (List.getElem?_eq_some_iff.1 hy).1; rw [HM.out] at this; exact this) hy))
                go_wp2
                go_ret
                exact BoolP.mk HR.out rfl HB.out
end Go.Proofs.YtfamoikmfbpigaaDoor
