/- limnerref10.show. -/
import Derived.Test.YtfamoikmfbpigaaDoorFshow
namespace Go.Proofs.YtfamoikmfbpigaaDoor
open Go.RowKit

def accR (k : Int) (T : List (List UInt8)) : List UInt8 := if k = 3 then Go.Lib.join T [124] else T.flatten
theorem join_snoc (sep : List UInt8) : ∀ (T : List (List UInt8)) (t : List UInt8), T ≠ [] → Go.Lib.join (T ++ [t]) sep = Go.Lib.join T sep ++ (sep ++ t)
  | [], _, h => absurd rfl h
  | x :: l, t, _ => by
    rw [List.cons_append, Go.Lib.join_cons, Go.Lib.join_cons, List.append_assoc]
    unfold Go.Lib.joinTail
    simp
theorem acc_0 (k : Int) : accR k [] = [] := by unfold accR; split <;> rfl
theorem acc_no {k : Int} (h : k ≠ 3) (T : List (List UInt8)) (t : List UInt8) : accR k (T ++ [t]) = accR k T ++ t := by unfold accR; rw [if_neg h, if_neg h]; simp
theorem acc_first {k : Int} (t : List UInt8) : accR k ([] ++ [t]) = accR k [] ++ t := by
  unfold accR
  split
  · simp [Go.Lib.join_one, Go.Lib.join_nil]
  · simp
theorem acc_bar {k : Int} (h : k = 3) (T : List (List UInt8)) (t : List UInt8) (hT : T ≠ []) : accR k (T ++ [t]) = accR k T ++ (124 :: t) := by
  unfold accR; rw [if_pos h, if_pos h, join_snoc _ _ _ hT]; rfl
theorem szL_take : ∀ (L : List Nd) (j : Nat), szL (L.take j) ≤ szL L
  | [], j => by simp
  | x :: l, 0 => by simp [szL]
  | x :: l, j + 1 => by rw [List.take_succ_cons, szL, szL]; have := szL_take l j; omega
theorem acc_len (k of : Int) (L : List Nd) : (accR k (kidsE of L)).length ≤ 2400 * szL L := by
  have h1 := kids_len of L
  unfold accR
  split
  · have h4 : (Go.Lib.join (kidsE of L) [124]).length ≤ ((kidsE of L).map fun x => x.length + 1).sum := join_len [124] (kidsE of L)
    omega
  · have := flat_le (kidsE of L); omega
theorem txt_app (a b : List UInt8) (s t : ByteArray) (hs : (⟨a.toArray⟩ : ByteArray) = s) (ht : (⟨b.toArray⟩ : ByteArray) = t) : (⟨(a ++ b).toArray⟩ : ByteArray) = s ++ t := by rw [← hs, ← ht, toArr_app]
theorem bar_app (b : List UInt8) (t : ByteArray) (ht : (⟨b.toArray⟩ : ByteArray) = t) : (⟨(124 :: b).toArray⟩ : ByteArray) = ⟨#[124]⟩ ++ t := by rw [← ht, show (⟨#[124]⟩ : ByteArray) = ⟨[124].toArray⟩ from rfl, toArr_app]; rfl
def RsS (w W : World) (k : Int) (S : List Nat) (sv : Value) : Prop := Blk W w.heap.size 33 (ndL k S sv) ∧ Below w.heap.size w W
theorem RsS.low {w W V : World} {k : Int} {S : List Nat} {sv : Value} (h : RsS w W k S sv) (hb : Below W.heap.size W V) : RsS w V k S sv := ⟨h.1.below hb, h.2.trans (hb.mono h.2.size)⟩
set_option maxHeartbeats 16000000 in
set_option maxRecDepth 100000 in
theorem rshow_any : ∀ (f : Nat) (n : Nd) (cs : List Value) (P : Nat → Prop) (w : World), szN n < f → szN n ≤ 2000 → rmayE n = true → NdX P w n cs →
    Calls Tryd.prog 33 #[.agg cs.toArray] w (StrP (showE n) w)
  | 0, _, _, _, _, hf, _, _, _ => absurd hf (by omega)
  | f + 1, .mk k S L, cs, P, w, hf, hsz, hmay, hn => by
    obtain ⟨x0, x1, x2, x3, A, cap, rfl, rfl, hw, hc, hcm, hkids⟩ := hn.parts
    have IH := hide (fun (n : Nd) (cs : List Value) (W : World) (h1 : szN n < f) (h0 : szN n ≤ 2000) (hm : rmayE n = true) (h2 : NdX P W n cs) => rshow_any f n cs P W h1 h0 hm h2)
    have HW4 := hide hw
    have HK := hide hkids
    have HMY := hide hmay
    obtain ⟨m, hm0⟩ : ∃ m, L.length = m := ⟨_, rfl⟩
    have HM := hide hm0
    have HSL := hide (show szL L < 2000 by unfold szN at hsz; omega)
    have HF := hide (show szL L < f by unfold szN at hf; omega)
    have hml : m ≤ 2000 := by have h1 := len_sz L; have h2 := HSL.out; omega
    have HSE := hide (show showE (.mk k [x0, x1, x2, x3] L) = _ from by rw [showE])
    rw [hm0] at hc ⊢
    have HB0 := hide (show RsS w (w.alloc (.cells (ndL k [x0, x1, x2, x3] (.slice A m cap)).toArray 33)) k [x0, x1, x2, x3] (.slice A m cap) from ⟨Blk.new _ _ _, (Below.refl _ _).alloc (Nat.le_refl _) _⟩)
    clear hn hkids hw hf hm0 hsz hmay
    unfold maxLen at hcm
    rw [show (ndL k [x0, x1, x2, x3] (.slice A m cap)).toArray = #[.int .i64 k, .int .u64 (x0 : Int), .int .u64 (x1 : Int), .int .u64 (x2 : Int), .int .u64 (x3 : Int), .slice A m cap] from rfl]
    obtain ⟨T, hT⟩ : ∃ T, showE (.mk k [x0, x1, x2, x3] L) = T := ⟨_, rfl⟩
    rw [hT] at HSE ⊢
    clear hT
    by_cases h0 : k = 0
    · subst h0
      have HR := hide (show T = [40, 41] by rw [HSE.out, if_neg (by decide), if_neg (by decide), if_neg (by decide), if_neg (by decide), if_neg (by decide), if_neg (by decide)])
      go_enter Tryd.func33, Tryd.ntmps33
      go_wp2
      go_ret
      exact StrP.mk (by rw [HR.out]) rfl HB0.out.2
    have q0 : (k == 0) = false := by simpa using h0
    by_cases h1 : k = 1
    · subst h1
      have HR := hide (show T = spansE [x0, x1, x2, x3] by rw [HSE.out, if_pos rfl])
      go_enter Tryd.func33, Tryd.ntmps33
      go_wp2_with fail
      refine (rset_any x0 x1 x2 x3 _ HW4.out).mono ?_; rintro e w9 ⟨rfl, hb9⟩
      go_wp2
      go_ret
      exact StrP.mk (by rw [HR.out]) rfl (HB0.out.2.trans (hb9.mono HB0.out.2.size))
    have q1 : (k == 1) = false := by simpa using h1
    have HSE2 := hide (show T = if k = 4 then accR k (kidsE k L) ++ [42] else if k = 5 then accR k (kidsE k L) ++ [43] else if k = 6 then accR k (kidsE k L) ++ [63] else accR k (kidsE k L) by
      have hk : 2 ≤ k ∧ k ≤ 6 := by
        have h9 := HMY.out
        rw [rmayE, Bool.and_eq_true, shape_cnt, Bool.and_eq_true] at h9
        have h8 := h9.1.1
        have : 0 ≤ k ∧ k ≤ 6 := by
          by_cases hh : 0 ≤ k ∧ k ≤ 6
          · exact hh
          · rw [cnt_not hh] at h8; cases h8
        omega
      rw [HSE.out, if_neg h1]
      unfold accR
      by_cases h2 : k = 2
      · subst h2; rfl
      by_cases h3 : k = 3
      · subst h3; rfl
      rw [if_neg h2, if_neg h3]
      by_cases h4 : k = 4
      · subst h4; rfl
      by_cases h5 : k = 5
      · subst h5; rfl
      · obtain rfl : k = 6 := by omega
        rfl)
    clear HSE h0 h1
    go_enter Tryd.func33, Tryd.ntmps33
    go_wp2
    rw [show w.alloc (.cells #[.int .i64 k, .int .u64 (x0 : Int), .int .u64 (x1 : Int), .int .u64 (x2 : Int), .int .u64 (x3 : Int), .slice A m cap] 33) = w.alloc (.cells (ndL k [x0, x1, x2, x3] (.slice A m cap)).toArray 33) from rfl]
    obtain ⟨W0, hW0⟩ : ∃ W, w.alloc (.cells (ndL k [x0, x1, x2, x3] (.slice A m cap)).toArray 33) = W := ⟨_, rfl⟩
    rw [hW0] at HB0 ⊢
    clear hW0
    go_loopw [3, 4] (fun sv iv wr => ∃ (j : Nat) (s : ByteArray), iv = .int .i64 j ∧ sv = .string s ∧ j ≤ m ∧ s.size ≤ 5000000 ∧ Hid ((⟨(accR k (kidsE k (L.take j))).toArray⟩ : ByteArray) = s) ∧ Hid (RsS w wr k [x0, x1, x2, x3] (.slice A m cap))) (fun _ iv _ => m - (intOf iv).toNat)
    case atStart => exact ⟨0, ⟨#[]⟩, rfl, rfl, by omega, by simp [ByteArray.size], hide (by rw [List.take_zero, kidsE, acc_0]), HB0⟩
    case round =>
      clear HB0
      obtain ⟨j, s, rfl, rfl, hj, hsz, HT, HB⟩ := hrel
      have a0 := HB.out.1.cell (i := 0) rfl
      have a5 := HB.out.1.cell (i := 5) rfl
      by_cases hlt : j < m
      · obtain ⟨x, hx⟩ : ∃ x, L[j]? = some x := ⟨_, List.getElem?_eq_getElem (by rw [HM.out]; exact hlt)⟩
        obtain ⟨b, o, cx, rfl, hb, -, hcx, hnx⟩ := HK.out.get j x hx
        obtain ⟨kx, u0, u1, u2, u3', Ax, mx, capx, rfl, -, -⟩ := hnx.form
        have HCX := hide (fun (W : World) (hW : Below w.heap.size w W) i u (hu : (ndL kx [u0, u1, u2, u3'] (.slice Ax mx capx))[i]? = some u) => show W.cell? ⟨b, o + j * 6 + i, none⟩ = some u from (hW.cell (p := ⟨b, o + j * 6 + i, none⟩) hb.2).trans (by have := hcx i u hu; rw [Nat.zero_add] at this; exact this))
        have hsx0 := szL_at hx
        have hsx : szN x < f := Nat.lt_of_le_of_lt hsx0 HF.out
        have hsx1 : szN x ≤ 2000 := by have := HSL.out; omega
        have hmx : rmayE x = true := by
          have h1 := HMY.out
          rw [rmayE, rmayL_all, Bool.and_eq_true] at h1
          exact List.all_eq_true.1 h1.2 x (List.mem_of_getElem? hx)
        have hlx : (showE x).length ≤ 5000000 := by have := show_len x; omega
        have hkx : kdN x = kx := by
          cases x with
          | mk k' S' L' =>
            obtain ⟨_, _, _, _, _, _, _, e, _⟩ := hnx.parts
            have := congrArg (·[0]?) e
            simp [ndL] at this
            exact this.symm
        have HWR := hide (show wrapB k x = (kx == 3 || (kx == 2 && k != 3)) by unfold wrapB; rw [hkx])
        have HI := hide (fun (W : World) (hW : Below w.heap.size w W) => IH.out x _ W hsx hsx1 hmx (hnx.low hW))
        have HST := hide (show accR k (kidsE k (L.take (j + 1))) = accR k (kidsE k (L.take j) ++ [kidE k x (showE x)]) by rw [kids_step hx])
        have HLN := hide (show (kidsE k (L.take j)).length = j by rw [kidsE_map, List.length_map, List.length_take, HM.out]; omega)
        have HAL := hide (show (accR k (kidsE k (L.take (j + 1)))).length ≤ 5000000 by have h1 := acc_len k k (L.take (j + 1)); have h2 := szL_take L (j + 1); have h3 := HSL.out; omega)
        have HPJ := hide (par_join (showE x))
        obtain ⟨sx, hsxe⟩ : ∃ s : ByteArray, ⟨(showE x).toArray⟩ = s := ⟨_, rfl⟩
        have hzx : sx.size ≤ 5000000 := by rw [← hsxe, bd_size]; exact hlx
        have HSX := hide hsxe
        rw [hsxe] at HPJ
        have HI := hide (show ∀ W, Below w.heap.size w W → Calls Tryd.prog 33 #[.agg #[.int .i64 kx, .int .u64 (u0 : Int), .int .u64 (u1 : Int), .int .u64 (u2 : Int), .int .u64 (u3' : Int), .slice Ax mx capx]] W fun e w' => e = .returned (.string sx) ∧ Below W.heap.size W w' from fun W hW => by rw [← hsxe]; exact HI.out W hW)
        clear hx hcx hnx hsx hsx0 hsx1 hmx hlx hsxe hkx
        have c0 : wr.cell? ⟨b, o + j * 6, none⟩ = some (.int .i64 kx) := HCX.out wr HB.out.2 0 _ rfl
        have c1 := HCX.out wr HB.out.2 1 _ rfl
        have c2 := HCX.out wr HB.out.2 2 _ rfl
        have c3 := HCX.out wr HB.out.2 3 _ rfl
        have c4 := HCX.out wr HB.out.2 4 _ rfl
        have c5 := HCX.out wr HB.out.2 5 _ rfl
        have hj0 : (0 : Int) ≤ (j : Int) := by omega
        have hj1 : (j : Int) < (m : Int) := by omega
        have HNX := hide (Blk.new wr 33 (ndL kx [u0, u1, u2, u3'] (.slice Ax mx capx)))
        have hbx : Below wr.heap.size wr (wr.alloc (.cells #[.int .i64 kx, .int .u64 (u0 : Int), .int .u64 (u1 : Int), .int .u64 (u2 : Int), .int .u64 (u3' : Int), .slice Ax mx capx] 33)) := (Below.refl _ _).alloc (Nat.le_refl _) _
        have HBX := hide (HB.out.low hbx)
        clear hbx
        go_wp2_with fail
        refine (HI.out _ HBX.out.2).mono ?_; rintro e w9 ⟨rfl, hb9⟩
        have HB9 := hide (HBX.out.low hb9)
        have d0 := (HNX.out.below hb9).cell (i := 0) rfl
        clear hb9 HB HBX HI HNX a0 a5 c0 c1 c2 c3 c4 c5 hj0 hj1 HCX
        have a0 := HB9.out.1.cell (i := 0) rfl
        have a5 := HB9.out.1.cell (i := 5) rfl
        have y2 : (⟨#[40]⟩ : ByteArray).size = 1 := rfl
        have y3 : (⟨#[41]⟩ : ByteArray).size = 1 := rfl
        have y4 : (⟨#[124]⟩ : ByteArray).size = 1 := rfl
        cases h3 : (kx == 3) with
        | true =>
          have HWX : wrapB k x = true := by rw [HWR.out, h3]; rfl
          by_cases hk3 : k = 3
          · have p3 : (k == 3) = true := by simpa using hk3
            by_cases hj0 : j = 0
            · have HJ0 := hide hj0
              obtain ⟨ji, hji⟩ : ∃ x : Int, (j : Int) = x := ⟨_, rfl⟩
              have HJI := hide hji
              have qb0 : ¬ 0 < ji := by omega
              have qb1 : 0 ≤ ji := by omega
              have qb2 : ji ≤ 255 := by omega
              rw [hji]
              clear hj0 hji
              have HKT := hide (show kidE k x (showE x) = 40 :: (showE x ++ [41]) by unfold kidE; rw [HWX]; rfl)
              have HVT := hide (show (⟨(kidE k x (showE x)).toArray⟩ : ByteArray) = ⟨#[40]⟩ ++ sx ++ ⟨#[41]⟩ by rw [HKT.out]; exact HPJ.out.symm)
              have HFT := hide (show (⟨(accR k (kidsE k (L.take (j + 1)))).toArray⟩ : ByteArray) = s ++ (⟨#[40]⟩ ++ sx ++ ⟨#[41]⟩) by have h1 := HST.out; have h2 := HT.out; have h3 := HJ0.out; subst h3; rw [List.take_zero, kidsE] at h1 h2; rw [h1, acc_first]; exact txt_app _ _ _ _ h2 HVT.out)
              have hzf : (s ++ (⟨#[40]⟩ ++ sx ++ ⟨#[41]⟩)).size ≤ 5000000 := by rw [← HFT.out, bd_size]; exact HAL.out
              have yw : ((⟨#[40]⟩ : ByteArray) ++ sx ++ ⟨#[41]⟩).size ≤ 5000002 := by rw [ByteArray.size_append, ByteArray.size_append]; omega
              have yv : ((⟨#[40]⟩ : ByteArray) ++ sx).size ≤ 5000001 := by rw [ByteArray.size_append]; omega
              clear hk3
              go_wp2
              go_roundw
              case rel => exact ⟨j + 1, _, by rw [← HJI.out]; go_num, rfl, by omega, hzf, HFT, HB9⟩
              case measure => rw [← HJI.out]; simp [intOf]; omega
            · have HJ0 := hide hj0
              have qb0 : (0 : Int) < (j : Int) := by omega
              clear hj0
              have HKT := hide (show kidE k x (showE x) = 40 :: (showE x ++ [41]) by unfold kidE; rw [HWX]; rfl)
              have HVT := hide (show (⟨(kidE k x (showE x)).toArray⟩ : ByteArray) = ⟨#[40]⟩ ++ sx ++ ⟨#[41]⟩ by rw [HKT.out]; exact HPJ.out.symm)
              have HFT := hide (show (⟨(accR k (kidsE k (L.take (j + 1)))).toArray⟩ : ByteArray) = s ++ (⟨#[124]⟩ ++ (⟨#[40]⟩ ++ sx ++ ⟨#[41]⟩)) by rw [HST.out, acc_bar hk3 _ _ (fun e => by have h1 := HLN.out; rw [e] at h1; have h2 := HJ0.out; simp at h1; omega)]; exact txt_app _ _ _ _ HT.out (bar_app _ _ HVT.out))
              have hzf : (s ++ (⟨#[124]⟩ ++ (⟨#[40]⟩ ++ sx ++ ⟨#[41]⟩))).size ≤ 5000000 := by rw [← HFT.out, bd_size]; exact HAL.out
              have yw : ((⟨#[40]⟩ : ByteArray) ++ sx ++ ⟨#[41]⟩).size ≤ 5000002 := by rw [ByteArray.size_append, ByteArray.size_append]; omega
              have yv : ((⟨#[40]⟩ : ByteArray) ++ sx).size ≤ 5000001 := by rw [ByteArray.size_append]; omega
              have yb : ((⟨#[124]⟩ : ByteArray) ++ (⟨#[40]⟩ ++ sx ++ ⟨#[41]⟩)).size ≤ 5000003 := by rw [ByteArray.size_append]; omega
              clear hk3
              go_wp2
              go_roundw
              case rel => exact ⟨j + 1, _, by go_num, rfl, by omega, hzf, HFT, HB9⟩
              case measure => simp [intOf]; omega
          · have p3 : (k == 3) = false := by simpa using hk3
            have HKT := hide (show kidE k x (showE x) = 40 :: (showE x ++ [41]) by unfold kidE; rw [HWX]; rfl)
            have HVT := hide (show (⟨(kidE k x (showE x)).toArray⟩ : ByteArray) = ⟨#[40]⟩ ++ sx ++ ⟨#[41]⟩ by rw [HKT.out]; exact HPJ.out.symm)
            have HFT := hide (show (⟨(accR k (kidsE k (L.take (j + 1)))).toArray⟩ : ByteArray) = s ++ (⟨#[40]⟩ ++ sx ++ ⟨#[41]⟩) by rw [HST.out, acc_no hk3]; exact txt_app _ _ _ _ HT.out HVT.out)
            have hzf : (s ++ (⟨#[40]⟩ ++ sx ++ ⟨#[41]⟩)).size ≤ 5000000 := by rw [← HFT.out, bd_size]; exact HAL.out
            have yw : ((⟨#[40]⟩ : ByteArray) ++ sx ++ ⟨#[41]⟩).size ≤ 5000002 := by rw [ByteArray.size_append, ByteArray.size_append]; omega
            have yv : ((⟨#[40]⟩ : ByteArray) ++ sx).size ≤ 5000001 := by rw [ByteArray.size_append]; omega
            clear hk3
            go_wp2
            go_roundw
            case rel => exact ⟨j + 1, _, by go_num, rfl, by omega, hzf, HFT, HB9⟩
            case measure => simp [intOf]; omega
        | false =>
          cases h2 : (kx == 2) with
          | false =>
            have HWX : wrapB k x = false := by rw [HWR.out, h3, h2]; rfl
            by_cases hk3 : k = 3
            · have p3 : (k == 3) = true := by simpa using hk3
              by_cases hj0 : j = 0
              · have HJ0 := hide hj0
                obtain ⟨ji, hji⟩ : ∃ x : Int, (j : Int) = x := ⟨_, rfl⟩
                have HJI := hide hji
                have qb0 : ¬ 0 < ji := by omega
                have qb1 : 0 ≤ ji := by omega
                have qb2 : ji ≤ 255 := by omega
                rw [hji]
                clear hj0 hji
                have HKT := hide (show kidE k x (showE x) = showE x by unfold kidE; rw [HWX]; rfl)
                have HVT := hide (show (⟨(kidE k x (showE x)).toArray⟩ : ByteArray) = sx by rw [HKT.out]; exact HSX.out)
                have HFT := hide (show (⟨(accR k (kidsE k (L.take (j + 1)))).toArray⟩ : ByteArray) = s ++ (sx) by have h1 := HST.out; have h2 := HT.out; have h3 := HJ0.out; subst h3; rw [List.take_zero, kidsE] at h1 h2; rw [h1, acc_first]; exact txt_app _ _ _ _ h2 HVT.out)
                have hzf : (s ++ (sx)).size ≤ 5000000 := by rw [← HFT.out, bd_size]; exact HAL.out
                clear hk3
                go_wp2
                go_roundw
                case rel => exact ⟨j + 1, _, by rw [← HJI.out]; go_num, rfl, by omega, hzf, HFT, HB9⟩
                case measure => rw [← HJI.out]; simp [intOf]; omega
              · have HJ0 := hide hj0
                have qb0 : (0 : Int) < (j : Int) := by omega
                clear hj0
                have HKT := hide (show kidE k x (showE x) = showE x by unfold kidE; rw [HWX]; rfl)
                have HVT := hide (show (⟨(kidE k x (showE x)).toArray⟩ : ByteArray) = sx by rw [HKT.out]; exact HSX.out)
                have HFT := hide (show (⟨(accR k (kidsE k (L.take (j + 1)))).toArray⟩ : ByteArray) = s ++ (⟨#[124]⟩ ++ (sx)) by rw [HST.out, acc_bar hk3 _ _ (fun e => by have h1 := HLN.out; rw [e] at h1; have h2 := HJ0.out; simp at h1; omega)]; exact txt_app _ _ _ _ HT.out (bar_app _ _ HVT.out))
                have hzf : (s ++ (⟨#[124]⟩ ++ (sx))).size ≤ 5000000 := by rw [← HFT.out, bd_size]; exact HAL.out
                have yb : ((⟨#[124]⟩ : ByteArray) ++ (sx)).size ≤ 5000003 := by rw [ByteArray.size_append]; omega
                clear hk3
                go_wp2
                go_roundw
                case rel => exact ⟨j + 1, _, by go_num, rfl, by omega, hzf, HFT, HB9⟩
                case measure => simp [intOf]; omega
            · have p3 : (k == 3) = false := by simpa using hk3
              have HKT := hide (show kidE k x (showE x) = showE x by unfold kidE; rw [HWX]; rfl)
              have HVT := hide (show (⟨(kidE k x (showE x)).toArray⟩ : ByteArray) = sx by rw [HKT.out]; exact HSX.out)
              have HFT := hide (show (⟨(accR k (kidsE k (L.take (j + 1)))).toArray⟩ : ByteArray) = s ++ (sx) by rw [HST.out, acc_no hk3]; exact txt_app _ _ _ _ HT.out HVT.out)
              have hzf : (s ++ (sx)).size ≤ 5000000 := by rw [← HFT.out, bd_size]; exact HAL.out
              clear hk3
              go_wp2
              go_roundw
              case rel => exact ⟨j + 1, _, by go_num, rfl, by omega, hzf, HFT, HB9⟩
              case measure => simp [intOf]; omega
          | true =>
            cases ho : (k != 3) with
            | true =>
              have HWX : wrapB k x = true := by rw [HWR.out, h3, h2, ho]; rfl
              have po : (k != 3) = true := ho
              have hk3 : k ≠ 3 := by simpa using ho
              have p3 : (k == 3) = false := by simpa using hk3
              clear ho
              have HKT := hide (show kidE k x (showE x) = 40 :: (showE x ++ [41]) by unfold kidE; rw [HWX]; rfl)
              have HVT := hide (show (⟨(kidE k x (showE x)).toArray⟩ : ByteArray) = ⟨#[40]⟩ ++ sx ++ ⟨#[41]⟩ by rw [HKT.out]; exact HPJ.out.symm)
              have HFT := hide (show (⟨(accR k (kidsE k (L.take (j + 1)))).toArray⟩ : ByteArray) = s ++ (⟨#[40]⟩ ++ sx ++ ⟨#[41]⟩) by rw [HST.out, acc_no hk3]; exact txt_app _ _ _ _ HT.out HVT.out)
              have hzf : (s ++ (⟨#[40]⟩ ++ sx ++ ⟨#[41]⟩)).size ≤ 5000000 := by rw [← HFT.out, bd_size]; exact HAL.out
              have yw : ((⟨#[40]⟩ : ByteArray) ++ sx ++ ⟨#[41]⟩).size ≤ 5000002 := by rw [ByteArray.size_append, ByteArray.size_append]; omega
              have yv : ((⟨#[40]⟩ : ByteArray) ++ sx).size ≤ 5000001 := by rw [ByteArray.size_append]; omega
              clear hk3
              go_wp2
              go_roundw
              case rel => exact ⟨j + 1, _, by go_num, rfl, by omega, hzf, HFT, HB9⟩
              case measure => simp [intOf]; omega
            | false =>
              have HWX : wrapB k x = false := by rw [HWR.out, h3, h2, ho]; rfl
              have po : (k != 3) = false := ho
              have hk3 : k = 3 := by simpa using ho
              have p3 : (k == 3) = true := by simpa using hk3
              clear ho
              by_cases hj0 : j = 0
              · have HJ0 := hide hj0
                obtain ⟨ji, hji⟩ : ∃ x : Int, (j : Int) = x := ⟨_, rfl⟩
                have HJI := hide hji
                have qb0 : ¬ 0 < ji := by omega
                have qb1 : 0 ≤ ji := by omega
                have qb2 : ji ≤ 255 := by omega
                rw [hji]
                clear hj0 hji
                have HKT := hide (show kidE k x (showE x) = showE x by unfold kidE; rw [HWX]; rfl)
                have HVT := hide (show (⟨(kidE k x (showE x)).toArray⟩ : ByteArray) = sx by rw [HKT.out]; exact HSX.out)
                have HFT := hide (show (⟨(accR k (kidsE k (L.take (j + 1)))).toArray⟩ : ByteArray) = s ++ (sx) by have h1 := HST.out; have h2 := HT.out; have h3 := HJ0.out; subst h3; rw [List.take_zero, kidsE] at h1 h2; rw [h1, acc_first]; exact txt_app _ _ _ _ h2 HVT.out)
                have hzf : (s ++ (sx)).size ≤ 5000000 := by rw [← HFT.out, bd_size]; exact HAL.out
                clear hk3
                go_wp2
                go_roundw
                case rel => exact ⟨j + 1, _, by rw [← HJI.out]; go_num, rfl, by omega, hzf, HFT, HB9⟩
                case measure => rw [← HJI.out]; simp [intOf]; omega
              · have HJ0 := hide hj0
                have qb0 : (0 : Int) < (j : Int) := by omega
                clear hj0
                have HKT := hide (show kidE k x (showE x) = showE x by unfold kidE; rw [HWX]; rfl)
                have HVT := hide (show (⟨(kidE k x (showE x)).toArray⟩ : ByteArray) = sx by rw [HKT.out]; exact HSX.out)
                have HFT := hide (show (⟨(accR k (kidsE k (L.take (j + 1)))).toArray⟩ : ByteArray) = s ++ (⟨#[124]⟩ ++ (sx)) by rw [HST.out, acc_bar hk3 _ _ (fun e => by have h1 := HLN.out; rw [e] at h1; have h2 := HJ0.out; simp at h1; omega)]; exact txt_app _ _ _ _ HT.out (bar_app _ _ HVT.out))
                have hzf : (s ++ (⟨#[124]⟩ ++ (sx))).size ≤ 5000000 := by rw [← HFT.out, bd_size]; exact HAL.out
                have yb : ((⟨#[124]⟩ : ByteArray) ++ (sx)).size ≤ 5000003 := by rw [ByteArray.size_append]; omega
                clear hk3
                go_wp2
                go_roundw
                case rel => exact ⟨j + 1, _, by go_num, rfl, by omega, hzf, HFT, HB9⟩
                case measure => simp [intOf]; omega
      · obtain rfl : j = m := by omega
        have hLL : L.take j = L := List.take_of_length_le (by rw [HM.out]; exact Nat.le_refl _)
        rw [hLL] at HT
        clear hLL
        by_cases h4 : k = 4
        · subst h4
          have HR := hide (show (⟨T.toArray⟩ : ByteArray) = s ++ ⟨#[42]⟩ by rw [HSE2.out, if_pos rfl]; exact txt_app _ _ _ _ HT.out rfl)
          have y9 : (⟨#[42]⟩ : ByteArray).size = 1 := rfl
          go_wp2
          go_ret
          exact StrP.mk HR.out.symm rfl HB.out.2
        have p4 : (k == 4) = false := by simpa using h4
        by_cases h5 : k = 5
        · subst h5
          have HR := hide (show (⟨T.toArray⟩ : ByteArray) = s ++ ⟨#[43]⟩ by rw [HSE2.out, if_neg (by decide), if_pos rfl]; exact txt_app _ _ _ _ HT.out rfl)
          have y9 : (⟨#[43]⟩ : ByteArray).size = 1 := rfl
          go_wp2
          go_ret
          exact StrP.mk HR.out.symm rfl HB.out.2
        have p5 : (k == 5) = false := by simpa using h5
        by_cases h6 : k = 6
        · subst h6
          have HR := hide (show (⟨T.toArray⟩ : ByteArray) = s ++ ⟨#[63]⟩ by rw [HSE2.out, if_neg (by decide), if_neg (by decide), if_pos rfl]; exact txt_app _ _ _ _ HT.out rfl)
          have y9 : (⟨#[63]⟩ : ByteArray).size = 1 := rfl
          go_wp2
          go_ret
          exact StrP.mk HR.out.symm rfl HB.out.2
        have p6 : (k == 6) = false := by simpa using h6
        have HR := hide (show (⟨T.toArray⟩ : ByteArray) = s by rw [HSE2.out, if_neg h4, if_neg h5, if_neg h6]; exact HT.out)
        clear h4 h5 h6
        go_wp2
        go_ret
        exact StrP.mk HR.out.symm rfl HB.out.2
end Go.Proofs.YtfamoikmfbpigaaDoor
