/- regs.show, regs.kid. -/
import Derived.Test.YtfamoikmfbpigaaDoorFshowp
namespace Go.Proofs.YtfamoikmfbpigaaDoor
open Go.RowKit

theorem par_join (l : List UInt8) : (⟨#[40]⟩ : ByteArray) ++ ⟨l.toArray⟩ ++ ⟨#[41]⟩ = ⟨(40 :: (l ++ [41])).toArray⟩ := by
  rw [show (⟨#[40]⟩ : ByteArray) = ⟨[40].toArray⟩ from rfl, show (⟨#[41]⟩ : ByteArray) = ⟨[41].toArray⟩ from rfl, toArr_app, toArr_app]
  rfl
set_option maxHeartbeats 2000000 in
set_option maxRecDepth 100000 in
theorem kid_any (of : Int) (n : Nd) (cs : List Value) (P : Nat → Prop) (w : World) (hn : NdX P w n cs) (hlen : (showE n).length ≤ 100000000) (hs : ∀ W, Below w.heap.size w W → Calls Tryd.prog 30 #[.agg cs.toArray] W (StrP (showE n) W)) :
    Calls Tryd.prog 44 #[.int .i64 of, .agg cs.toArray] w (StrP (kidE of n (showE n)) w) := by
  obtain ⟨k, x0, x1, x2, x3, A, m, cap, rfl, -, -⟩ := hn.form
  have hk : kdN n = k := by
    cases n with
    | mk k' S L =>
      obtain ⟨_, _, _, _, _, _, _, e, _⟩ := hn.parts
      have := congrArg (·[0]?) e
      simp [ndL] at this
      exact this.symm
  have HB := hide (show Below w.heap.size w (w.alloc (.cells (ndL k [x0, x1, x2, x3] (.slice A m cap)).toArray 27)) from (Below.refl _ _).alloc (Nat.le_refl _) _)
  have HW := hide (show wrapB of n = (k == 3 || (k == 2 && of != 3)) by unfold wrapB; rw [hk])
  have HS := hide hs
  have HJ := hide (par_join (showE n))
  have hz : (⟨(showE n).toArray⟩ : ByteArray).size ≤ 100000000 := by rw [bd_size]; exact hlen
  have HE := hide (show ∀ b, wrapB of n = b → kidE of n (showE n) = if b = true then 40 :: (showE n ++ [41]) else showE n from fun b hb => by unfold kidE; rw [hb])
  obtain ⟨T, hT⟩ : ∃ T, kidE of n (showE n) = T := ⟨_, rfl⟩
  obtain ⟨s, hsn⟩ : ∃ s : ByteArray, ⟨(showE n).toArray⟩ = s := ⟨_, rfl⟩
  have HSN := hide hsn
  have HT := hide hT
  rw [hsn] at hz HJ
  have y1 : ((⟨#[40]⟩ : ByteArray) ++ s).size ≤ 100000001 := by rw [ByteArray.size_append]; have : (⟨#[40]⟩ : ByteArray).size = 1 := rfl; omega
  have y2 : (⟨#[40]⟩ : ByteArray).size = 1 := rfl
  have y3 : (⟨#[41]⟩ : ByteArray).size = 1 := rfl
  have HC := hide (show Calls Tryd.prog 30 #[.agg #[.int .i64 k, .int .u64 (x0 : Int), .int .u64 (x1 : Int), .int .u64 (x2 : Int), .int .u64 (x3 : Int), .slice A m cap]] (w.alloc (.cells #[.int .i64 k, .int .u64 (x0 : Int), .int .u64 (x1 : Int), .int .u64 (x2 : Int), .int .u64 (x3 : Int), .slice A m cap] 27)) fun e w' => e = .returned (.string s) ∧ Below (w.alloc (.cells #[.int .i64 k, .int .u64 (x0 : Int), .int .u64 (x1 : Int), .int .u64 (x2 : Int), .int .u64 (x3 : Int), .slice A m cap] 27)).heap.size (w.alloc (.cells #[.int .i64 k, .int .u64 (x0 : Int), .int .u64 (x1 : Int), .int .u64 (x2 : Int), .int .u64 (x3 : Int), .slice A m cap] 27)) w' from by rw [← hsn]; exact hs _ HB.out)
  rw [hT] at HE ⊢
  clear hs hT hsn hn hk hlen
  rw [show (ndL k [x0, x1, x2, x3] (.slice A m cap)).toArray = #[.int .i64 k, .int .u64 (x0 : Int), .int .u64 (x1 : Int), .int .u64 (x2 : Int), .int .u64 (x3 : Int), .slice A m cap] from rfl]
  cases h3 : (k == 3) with
  | true =>
    have HR := hide (HE.out true (by rw [HW.out, h3]; rfl))
    go_enter Tryd.func44, Tryd.ntmps44
    go_wp2_with fail
    refine HC.out.mono ?_; rintro e w1 ⟨rfl, hb1⟩
    go_wp2
    go_ret
    exact StrP.mk (by rw [HR.out]; exact HJ.out) rfl (HB.out.trans (hb1.mono HB.out.size))
  | false =>
    cases h2 : (k == 2) with
    | false =>
      have HR := hide (HE.out false (by rw [HW.out, h3, h2]; rfl))
      go_enter Tryd.func44, Tryd.ntmps44
      go_wp2_with fail
      refine HC.out.mono ?_; rintro e w1 ⟨rfl, hb1⟩
      go_wp2
      go_ret
      exact StrP.mk (by rw [HR.out]; exact HSN.out.symm) rfl (HB.out.trans (hb1.mono HB.out.size))
    | true =>
      cases ho : (of != 3) with
      | true =>
        have HR := hide (HE.out true (by rw [HW.out, h3, h2, ho]; rfl))
        go_enter Tryd.func44, Tryd.ntmps44
        go_wp2_with fail
        refine HC.out.mono ?_; rintro e w1 ⟨rfl, hb1⟩
        go_wp2
        go_ret
        exact StrP.mk (by rw [HR.out]; exact HJ.out) rfl (HB.out.trans (hb1.mono HB.out.size))
      | false =>
        have HR := hide (HE.out false (by rw [HW.out, h3, h2, ho]; rfl))
        go_enter Tryd.func44, Tryd.ntmps44
        go_wp2_with fail
        refine HC.out.mono ?_; rintro e w1 ⟨rfl, hb1⟩
        go_wp2
        go_ret
        exact StrP.mk (by rw [HR.out]; exact HSN.out.symm) rfl (HB.out.trans (hb1.mono HB.out.size))
/-- What show's box and row hold. -/
structure ShS (w W : World) (k : Int) (S : List Nat) (sv v : Value) (T : List (List UInt8)) : Prop where
  box : Blk W w.heap.size 27 (ndL k S sv)
  row : SRow W (w.heap.size + 1) v (T.map fun l => ⟨l.toArray⟩)
  below : Below w.heap.size w W
theorem ShS.low {w W V : World} {k : Int} {S : List Nat} {sv v : Value} {T : List (List UInt8)} (h : ShS w W k S sv v T) (hb : Below W.heap.size W V) : ShS w V k S sv v T :=
  ⟨h.box.below hb, h.row.below hb, h.below.trans (hb.mono h.below.size)⟩
theorem ShS.app {w W V : World} {k : Int} {S : List Nat} {sv v v' : Value} {T : List (List UInt8)} {p : List UInt8} (h : ShS w W k S sv v T) (hg : W.grownBy V v.ownBlock) (ho : SRow V (w.heap.size + 1) v' ((T ++ [p]).map fun l => ⟨l.toArray⟩)) : ShS w V k S sv v' (T ++ [p]) := by
  have hr : ∀ q, v.ownBlock = some q → w.heap.size + 1 ≤ q := fun q hq => (World.ownsRow.lt h.row q hq).1
  exact ⟨(hg.block _ h.box.lt (fun e => by have := hr _ e.symm; omega)).trans h.box, ho, h.below.grown hg h.below.size (fun k e => by have := hr k e; omega)⟩
theorem len_sz : ∀ L : List Nd, L.length ≤ szL L
  | [] => Nat.le_refl _
  | x :: l => by
    have h1 := len_sz l
    have h2 : 1 ≤ szN x := by cases x; unfold szN; omega
    rw [szL, List.length_cons]; omega
theorem kids_step {of : Int} {L : List Nd} {j : Nat} {x : Nd} (h : L[j]? = some x) : kidsE of (L.take (j + 1)) = kidsE of (L.take j) ++ [kidE of x (showE x)] := by
  rw [List.take_add_one, h, kidsE_map, kidsE_map, List.map_append]; rfl
theorem bytes_map (T : List (List UInt8)) : (T.map fun l => (⟨l.toArray⟩ : ByteArray)).map (·.data.toList) = T := by simp [List.map_map, Function.comp_def]
/-- strings.Join of a row of one's own. -/
theorem join_row {w : World} {B : Nat} {A : Option Addr} {n c : Nat} {T : List (List UInt8)} (h : SRow w B (.slice A n c) (T.map fun l => ⟨l.toArray⟩)) (hn : T.length = n) (hnc : n ≤ c) (h0 : 0 < n) (hn2 : n ≤ 1000000) (sep : List UInt8) (hl : (Go.Lib.join T sep).length ≤ 100000000) :
    Calls Tryd.prog 46 #[.slice A n c, .string ⟨sep.toArray⟩] w fun e w' => e = .returned (.string ⟨(Go.Lib.join T sep).toArray⟩) ∧ Below w.heap.size w w' := by
  obtain ⟨p0, hp0⟩ : ∃ p, T[0]? = some p := ⟨_, List.getElem?_eq_getElem (by omega)⟩
  obtain ⟨g, rfl, hg1, hg2, -⟩ := h.get (j := 0) (s := ⟨p0.toArray⟩) (by rw [List.getElem?_map, hp0]; rfl)
  have HJ := Tryd.strings_Join g 0 c (T.map fun l => (⟨l.toArray⟩ : ByteArray)) ⟨sep.toArray⟩ w (fun j x hx => by
      rw [Nat.zero_add]
      obtain ⟨g', e1, _, _, e4⟩ := h.get hx
      injection e1 with e1; injection e1 with e1; subst e1
      exact e4) hg2 (by rw [List.length_map, hn]; omega) (by rw [List.length_map, hn]; exact hnc)
    (by rw [bytes_map, show (⟨sep.toArray⟩ : ByteArray).data.toList = sep from rfl]; omega)
  rw [bytes_map, show (⟨sep.toArray⟩ : ByteArray).data.toList = sep from rfl, List.length_map, hn] at HJ
  exact HJ
set_option maxHeartbeats 8000000 in
set_option maxRecDepth 100000 in
theorem show_any : ∀ (f : Nat) (n : Nd) (cs : List Value) (P : Nat → Prop) (w : World), szN n < f → szN n ≤ 2000 → rmayE n = true → NdX P w n cs →
    Calls Tryd.prog 30 #[.agg cs.toArray] w (StrP (showE n) w)
  | 0, _, _, _, _, hf, _, _, _ => absurd hf (by omega)
  | f + 1, .mk k S L, cs, P, w, hf, hsz, hmay, hn => by
    obtain ⟨x0, x1, x2, x3, A, cap, rfl, rfl, hw, hc, hcm, hkids⟩ := hn.parts
    have IH := hide (fun (n : Nd) (cs : List Value) (W : World) (h1 : szN n < f) (h0 : szN n ≤ 2000) (hm : rmayE n = true) (h2 : NdX P W n cs) => show_any f n cs P W h1 h0 hm h2)
    have HW4 := hide hw
    have HK := hide hkids
    have HMY := hide hmay
    obtain ⟨m, hm0⟩ : ∃ m, L.length = m := ⟨_, rfl⟩
    have HM := hide hm0
    have HSL := hide (show szL L < 2000 by unfold szN at hsz; omega)
    have HF := hide (show szL L < f by unfold szN at hf; omega)
    have hml : m ≤ 2000 := by have h1 := len_sz L; have h2 := HSL.out; omega
    have HSE := hide (show showE (.mk k [x0, x1, x2, x3] L) = _ from by rw [showE])
    have HSZ := hide (show (showE (.mk k [x0, x1, x2, x3] L)).length ≤ 10000000 from by have := show_len (.mk k [x0, x1, x2, x3] L); omega)
    rw [hm0] at hc ⊢
    have HB0 := hide (show ShS w (w.alloc (.cells (ndL k [x0, x1, x2, x3] (.slice A m cap)).toArray 27)) k [x0, x1, x2, x3] (.slice A m cap) (.slice none 0 0) [] from ⟨Blk.new _ _ _, SRow.nil _ _, (Below.refl _ _).alloc (Nat.le_refl _) _⟩)
    obtain ⟨i0, hinf, hi0, hi1, hi2⟩ := info_strS_parts
    clear hn hkids hw hf hm0 hsz hmay
    unfold maxLen at hcm
    rw [show (ndL k [x0, x1, x2, x3] (.slice A m cap)).toArray = #[.int .i64 k, .int .u64 (x0 : Int), .int .u64 (x1 : Int), .int .u64 (x2 : Int), .int .u64 (x3 : Int), .slice A m cap] from rfl]
    obtain ⟨T, hT⟩ : ∃ T, showE (.mk k [x0, x1, x2, x3] L) = T := ⟨_, rfl⟩
    rw [hT] at HSE HSZ ⊢
    clear hT
    go_enter Tryd.func30, Tryd.ntmps30
    go_wp2
    rw [show w.alloc (.cells #[.int .i64 k, .int .u64 (x0 : Int), .int .u64 (x1 : Int), .int .u64 (x2 : Int), .int .u64 (x3 : Int), .slice A m cap] 27) = w.alloc (.cells (ndL k [x0, x1, x2, x3] (.slice A m cap)).toArray 27) from rfl]
    obtain ⟨W0, hW0⟩ : ∃ W, w.alloc (.cells (ndL k [x0, x1, x2, x3] (.slice A m cap)).toArray 27) = W := ⟨_, rfl⟩
    rw [hW0] at HB0 ⊢
    clear hW0
    go_loopw [3, 9] (fun v iv wr => ∃ j : Nat, iv = .int .i64 j ∧ j ≤ m ∧ Hid (ShS w wr k [x0, x1, x2, x3] (.slice A m cap) v (kidsE k (L.take j)))) (fun _ iv _ => m - (intOf iv).toNat)
    case atStart => exact ⟨0, rfl, by omega, hide (by rw [List.take_zero, kidsE]; exact HB0.out)⟩
    case round =>
      clear HB0
      obtain ⟨j, rfl, hj, HB⟩ := hrel
      have a0 := HB.out.box.cell (i := 0) rfl
      by_cases hlt : j < m
      · obtain ⟨x, hx⟩ : ∃ x, L[j]? = some x := ⟨_, List.getElem?_eq_getElem (by rw [HM.out]; exact hlt)⟩
        obtain ⟨b, o, cx, rfl, hb, -, hcx, hnx⟩ := HK.out.get j x hx
        obtain ⟨kx, u0, u1, u2, u3', Ax, mx, capx, rfl, -, -⟩ := hnx.form
        have HCX := hide (fun (W : World) (hW : Below w.heap.size w W) i u (hu : (ndL kx [u0, u1, u2, u3'] (.slice Ax mx capx))[i]? = some u) => show W.cell? ⟨b, o + j * 6 + i, none⟩ = some u from (hW.cell (p := ⟨b, o + j * 6 + i, none⟩) hb.2).trans (by have := hcx i u hu; rw [Nat.zero_add] at this; exact this))
        have hsx0 := szL_at hx
        have hsx : szN x < f := Nat.lt_of_le_of_lt hsx0 HF.out
        have hsx1 : szN x ≤ 2000 := by have := HSL.out; omega
        have hmx : rmayE x = true := by
          have h1 := HMY.out
          rw [rmayE, rmayL_all, Bool.and_eq_true] at h1
          exact List.all_eq_true.1 h1.2 x (List.mem_of_getElem? hx)
        have hlx : (showE x).length ≤ 10000000 := by have := show_len x; omega
        have HI := hide (fun (W : World) (hW : Below w.heap.size w W) => kid_any k x _ P W (hnx.low hW) (by omega) (fun V hV => IH.out x _ V hsx hsx1 hmx (hnx.low (hW.trans (hV.mono hW.size)))))
        have HST := hide (kids_step (of := k) hx)
        have HLN := hide (show (kidsE k (L.take j)).length = j by rw [kidsE_map, List.length_map, List.length_take, HM.out]; omega)
        obtain ⟨tx, htx⟩ : ∃ t, kidE k x (showE x) = t := ⟨_, rfl⟩
        rw [htx] at HI HST
        clear hx hcx hnx hsx hsx0 hsx1 htx hmx hlx
        have c0 : wr.cell? ⟨b, o + j * 6, none⟩ = some (.int .i64 kx) := HCX.out wr HB.out.below 0 _ rfl
        have c1 := HCX.out wr HB.out.below 1 _ rfl
        have c2 := HCX.out wr HB.out.below 2 _ rfl
        have c3 := HCX.out wr HB.out.below 3 _ rfl
        have c4 := HCX.out wr HB.out.below 4 _ rfl
        have c5 := HCX.out wr HB.out.below 5 _ rfl
        have hj0 : (0 : Int) ≤ (j : Int) := by omega
        have hj1 : (j : Int) < (m : Int) := by omega
        have hbx : Below wr.heap.size wr (wr.alloc (.cells #[.int .i64 kx, .int .u64 (u0 : Int), .int .u64 (u1 : Int), .int .u64 (u2 : Int), .int .u64 (u3' : Int), .slice Ax mx capx] 27)) := (Below.refl _ _).alloc (Nat.le_refl _) _
        have HBX := hide (HB.out.low hbx)
        have d0 := HBX.out.box.cell (i := 0) rfl
        clear hbx
        go_wp2_with fail
        refine (HI.out _ HBX.out.below).mono ?_; rintro e w9 ⟨rfl, hb9⟩
        have HB9 := hide (HBX.out.low hb9)
        clear hb9 HB HBX HI a0 c0 c1 c2 c3 c4 c5 d0
        obtain ⟨s, hs⟩ : ∃ s : ByteArray, ⟨tx.toArray⟩ = s := ⟨_, rfl⟩
        have HSS := hide hs
        have hRl : ((kidsE k (L.take j)).map fun l => (⟨l.toArray⟩ : ByteArray)).length ≤ 2000 := by rw [List.length_map, HLN.out]; omega
        rw [hs]
        clear hs
        have hbl : Below w9.heap.size w9 (w9.alloc (.cells #[.string s] 9)) := (Below.refl _ _).alloc (Nat.le_refl _) _
        have HBa := hide (HB9.out.low hbl)
        have hzz := HBa.out.box.lt
        have hrow := HBa.out.row
        clear hbl
        go_wp2_with (at_builtin; refine wpList_append_own _ rfl _ _ 50 rfl (w.heap.size + 1) 9 i0 _ 1 16 Tryd.underlying50 hinf hi0 hi1 hi2 (by rfl) (by decide) u3 _ _ rfl hrow ⟨w9.heap.size, 0, none⟩ 1 1 [.string s] rfl rfl (one_strS w9 s) (by simp [Value.oneCell']) (by unfold maxLen; omega) (by omega) hzz ?_; intro v' w6 hown1 hgrow1 _)
        have HB6 := hide (HBa.out.app (p := tx) hgrow1 (by have h9 := SRow.app hown1; rw [List.map_append]; rw [← HSS.out] at h9; exact h9))
        clear hown1 hgrow1 HBa hrow
        go_wp2
        go_roundw
        case rel => exact ⟨j + 1, by go_num, by omega, hide (by rw [HST.out]; exact HB6.out)⟩
        case measure => simp [intOf]; omega
      · obtain rfl : j = m := by omega
        have hLL : L.take j = L := List.take_of_length_le (by rw [HM.out]; exact Nat.le_refl _)
        rw [hLL] at HB
        have HLN := hide (show (kidsE k L).length = j by rw [kidsE_map, List.length_map, HM.out])
        clear hLL
        have a1 := HB.out.box.cell (i := 1) rfl
        have a2 := HB.out.box.cell (i := 2) rfl
        have a3 := HB.out.box.cell (i := 3) rfl
        have a4 := HB.out.box.cell (i := 4) rfl
        obtain ⟨A9, c9, rfl, hc9, hm9⟩ := HB.out.row.form (n := j) (by rw [List.length_map, HLN.out])
        by_cases h1 : k = 1
        · subst h1
          have HR := hide (show T = spansE [x0, x1, x2, x3] by rw [HSE.out, if_pos rfl])
          go_wp2_with fail
          refine (spans_any x0 x1 x2 x3 wr HW4.out).mono ?_; rintro e w9 ⟨rfl, hb9⟩
          go_wp2
          go_ret
          exact StrP.mk (by rw [HR.out]) rfl (HB.out.below.trans (hb9.mono HB.out.below.size))
        have q1 : (k == 1) = false := by simpa using h1
        have hsh : shapeB k [x0, x1, x2, x3] j = true := by
          have h1 := HMY.out
          rw [rmayE, Bool.and_eq_true, HM.out] at h1
          exact h1.1
        have hcnt : cntB k j = true := by
          rw [shape_cnt, Bool.and_eq_true] at hsh
          exact hsh.1
        clear hsh
        by_cases h2 : k = 2
        · subst h2
          have hj2 : 2 ≤ j := by rw [cnt_23 (by omega)] at hcnt; exact of_decide_eq_true hcnt
          have HR := hide (show T = Go.Lib.join (kidsE 2 L) [] by rw [HSE.out, if_neg (by decide), if_pos rfl, join_flat])
          have HJ := hide (join_row HB.out.row HLN.out hc9 (by omega) (by omega) [] (by rw [← HR.out]; have := HSZ.out; omega))
          clear hcnt h1
          go_wp2_with fail
          refine HJ.out.mono ?_; rintro e w9 ⟨rfl, hb9⟩
          go_wp2
          go_ret
          exact StrP.mk (by rw [HR.out]) rfl (HB.out.below.trans (hb9.mono HB.out.below.size))
        have q2 : (k == 2) = false := by simpa using h2
        by_cases h3 : k = 3
        · subst h3
          have hj2 : 2 ≤ j := by rw [cnt_23 (by omega)] at hcnt; exact of_decide_eq_true hcnt
          have HR := hide (show T = Go.Lib.join (kidsE 3 L) [124] by rw [HSE.out, if_neg (by decide), if_neg (by decide), if_pos rfl])
          have HJ := hide (join_row HB.out.row HLN.out hc9 (by omega) (by omega) [124] (by rw [← HR.out]; have := HSZ.out; omega))
          clear hcnt h1 h2
          go_wp2_with fail
          refine HJ.out.mono ?_; rintro e w9 ⟨rfl, hb9⟩
          go_wp2
          go_ret
          exact StrP.mk (by rw [HR.out]) rfl (HB.out.below.trans (hb9.mono HB.out.below.size))
        have q3 : (k == 3) = false := by simpa using h3
        by_cases h4 : k = 4
        · subst h4
          have hj1 : j = 1 := by rw [cnt_46 (by omega)] at hcnt; simpa using hcnt
          obtain ⟨t, ht⟩ : ∃ t, kidsE 4 L = [t] := by
            have h9 := HLN.out
            rw [hj1] at h9
            match hk : kidsE 4 L, h9 with
            | [t], _ => exact ⟨t, rfl⟩
          have HR := hide (show T = t ++ [42] by rw [HSE.out, if_neg (by decide), if_neg (by decide), if_neg (by decide), if_pos rfl, ht]; simp)
          obtain ⟨g, rfl, hg1, hg2, hcg⟩ := HB.out.row.get (j := 0) (s := ⟨t.toArray⟩) (by rw [ht]; rfl)
          have HJ := hide (show (⟨t.toArray⟩ : ByteArray) ++ ⟨#[42]⟩ = ⟨(t ++ [42]).toArray⟩ by rw [show (⟨#[42]⟩ : ByteArray) = ⟨[42].toArray⟩ from rfl, toArr_app])
          have hz : (⟨t.toArray⟩ : ByteArray).size ≤ 10000000 := by rw [bd_size]; have h9 := HSZ.out; rw [HR.out, List.length_append] at h9; omega
          obtain ⟨s, hs⟩ : ∃ s : ByteArray, ⟨t.toArray⟩ = s := ⟨_, rfl⟩
          rw [hs] at hcg hz HJ
          have y3 : (⟨#[42]⟩ : ByteArray).size = 1 := rfl
          have hj0 : (0 : Int) < (j : Int) := by omega
          clear hs hcnt ht h1 h2 h3
          have HJ1 := hide hj1
          clear hj1
          go_wp2
          go_ret
          exact StrP.mk (by rw [HR.out]; exact HJ.out) rfl HB.out.below
        have q4 : (k == 4) = false := by simpa using h4
        by_cases h5 : k = 5
        · subst h5
          have hj1 : j = 1 := by rw [cnt_46 (by omega)] at hcnt; simpa using hcnt
          obtain ⟨t, ht⟩ : ∃ t, kidsE 5 L = [t] := by
            have h9 := HLN.out
            rw [hj1] at h9
            match hk : kidsE 5 L, h9 with
            | [t], _ => exact ⟨t, rfl⟩
          have HR := hide (show T = t ++ [43] by rw [HSE.out, if_neg (by decide), if_neg (by decide), if_neg (by decide), if_neg (by decide), if_pos rfl, ht]; simp)
          obtain ⟨g, rfl, hg1, hg2, hcg⟩ := HB.out.row.get (j := 0) (s := ⟨t.toArray⟩) (by rw [ht]; rfl)
          have HJ := hide (show (⟨t.toArray⟩ : ByteArray) ++ ⟨#[43]⟩ = ⟨(t ++ [43]).toArray⟩ by rw [show (⟨#[43]⟩ : ByteArray) = ⟨[43].toArray⟩ from rfl, toArr_app])
          have hz : (⟨t.toArray⟩ : ByteArray).size ≤ 10000000 := by rw [bd_size]; have h9 := HSZ.out; rw [HR.out, List.length_append] at h9; omega
          obtain ⟨s, hs⟩ : ∃ s : ByteArray, ⟨t.toArray⟩ = s := ⟨_, rfl⟩
          rw [hs] at hcg hz HJ
          have y3 : (⟨#[43]⟩ : ByteArray).size = 1 := rfl
          have hj0 : (0 : Int) < (j : Int) := by omega
          clear hs hcnt ht h1 h2 h3 h4
          have HJ1 := hide hj1
          clear hj1
          go_wp2
          go_ret
          exact StrP.mk (by rw [HR.out]; exact HJ.out) rfl HB.out.below
        have q5 : (k == 5) = false := by simpa using h5
        by_cases h6 : k = 6
        · subst h6
          have hj1 : j = 1 := by rw [cnt_46 (by omega)] at hcnt; simpa using hcnt
          obtain ⟨t, ht⟩ : ∃ t, kidsE 6 L = [t] := by
            have h9 := HLN.out
            rw [hj1] at h9
            match hk : kidsE 6 L, h9 with
            | [t], _ => exact ⟨t, rfl⟩
          have HR := hide (show T = t ++ [63] by rw [HSE.out, if_neg (by decide), if_neg (by decide), if_neg (by decide), if_neg (by decide), if_neg (by decide), if_pos rfl, ht]; simp)
          obtain ⟨g, rfl, hg1, hg2, hcg⟩ := HB.out.row.get (j := 0) (s := ⟨t.toArray⟩) (by rw [ht]; rfl)
          have HJ := hide (show (⟨t.toArray⟩ : ByteArray) ++ ⟨#[63]⟩ = ⟨(t ++ [63]).toArray⟩ by rw [show (⟨#[63]⟩ : ByteArray) = ⟨[63].toArray⟩ from rfl, toArr_app])
          have hz : (⟨t.toArray⟩ : ByteArray).size ≤ 10000000 := by rw [bd_size]; have h9 := HSZ.out; rw [HR.out, List.length_append] at h9; omega
          obtain ⟨s, hs⟩ : ∃ s : ByteArray, ⟨t.toArray⟩ = s := ⟨_, rfl⟩
          rw [hs] at hcg hz HJ
          have y3 : (⟨#[63]⟩ : ByteArray).size = 1 := rfl
          have hj0 : (0 : Int) < (j : Int) := by omega
          clear hs hcnt ht h1 h2 h3 h4 h5
          have HJ1 := hide hj1
          clear hj1
          go_wp2
          go_ret
          exact StrP.mk (by rw [HR.out]; exact HJ.out) rfl HB.out.below
        have q6 : (k == 6) = false := by simpa using h6
        have HR := hide (show T = [40, 41] by rw [HSE.out, if_neg h1, if_neg h2, if_neg h3, if_neg h4, if_neg h5, if_neg h6])
        clear hcnt h1 h2 h3 h4 h5 h6
        go_wp2
        go_ret
        exact StrP.mk (by rw [HR.out]) rfl HB.out.below
end Go.Proofs.YtfamoikmfbpigaaDoor
