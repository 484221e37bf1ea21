/- What the rows of a frame show; contract of limnerref06.Rows. -/
import Derived.Test.YtojjdckpbmjjdaaDoorGdiff
import Derived.Test.YtojjdckpbmjjdaaDoorGaresize
import Derived.Test.YtojjdckpbmjjdaaDoorGbuild
import Derived.Test.YtojjdckpbmjjdaaDoorPut
namespace Go.Proofs.YtojjdckpbmjjdaaDoor
open Go.RowKit

/-- What a row shows. -/
def shB : List Cl → List UInt8
  | [] => []
  | c :: t => (if 0 < c.w then (putS c.r).data.toList else []) ++ shB t
theorem shB_app (l m : List Cl) : shB (l ++ m) = shB l ++ shB m := by
  induction l with
  | nil => rfl
  | cons a t ih => rw [List.cons_append, shB, shB, ih, List.append_assoc]
theorem shB_step {l : List Cl} {j : Nat} {c : Cl} (h : l[j]? = some c) : shB (l.take (j + 1)) = shB (l.take j) ++ if 0 < c.w then (putS c.r).data.toList else [] := by
  rw [List.take_add_one, h, shB_app]
  simp [shB]
theorem putS_le (r : Int) : (putS r).size ≤ 4 := by
  unfold putS
  split
  · have key : ∀ c : Nat, (if c < 0x80 then (⟨#[UInt8.ofNat c]⟩ : ByteArray) else if c < 0x800 then ⟨#[UInt8.ofNat (0xC0 + c / 64), UInt8.ofNat (0x80 + c % 64)]⟩ else if c < 0x10000 then ⟨#[UInt8.ofNat (0xE0 + c / 4096), UInt8.ofNat (0x80 + c / 64 % 64), UInt8.ofNat (0x80 + c % 64)]⟩ else ⟨#[UInt8.ofNat (0xF0 + c / 262144), UInt8.ofNat (0x80 + c / 4096 % 64), UInt8.ofNat (0x80 + c / 64 % 64), UInt8.ofNat (0x80 + c % 64)]⟩).size ≤ 4 := by
      intro c
      split
      · exact (show (1 : Nat) ≤ 4 by omega)
      split
      · exact (show (2 : Nat) ≤ 4 by omega)
      split
      · exact (show (3 : Nat) ≤ 4 by omega)
      · exact (show (4 : Nat) ≤ 4 by omega)
    exact key _
  · exact Nat.zero_le _
theorem shB_le : ∀ (l : List Cl), (shB l).length ≤ 4 * l.length
  | [] => by simp [shB]
  | c :: t => by
    have h1 := shB_le t
    have h2 : (putS c.r).data.toList.length ≤ 4 := by have := putS_le c.r; simpa using this
    rw [shB, List.length_append, List.length_cons]
    split
    · omega
    · simp; omega
def rowS (cs : List Cl) (C i : Nat) : ByteArray := ⟨(shB (rowL cs C i)).toArray⟩
def rowsTo (cs : List Cl) (C k : Nat) : List ByteArray := (List.range k).map fun i => rowS cs C i
theorem rowsTo_len (cs : List Cl) (C k : Nat) : (rowsTo cs C k).length = k := by simp [rowsTo]
theorem rowsTo_step (cs : List Cl) (C k : Nat) : rowsTo cs C (k + 1) = rowsTo cs C k ++ [rowS cs C k] := by
  unfold rowsTo
  rw [List.range_succ, List.map_append]
  rfl
def rowsF (f : Fr) : List ByteArray := if validF f = true then rowsTo f.cs f.cols.toNat f.rows.toNat else []
theorem rowsF_bad {f : Fr} (h : validF f = false) : rowsF f = [] := by unfold rowsF; rw [h]; rfl
theorem rowsF_ok {f : Fr} (h : validF f = true) : rowsF f = rowsTo f.cs f.cols.toNat f.rows.toNat := by unfold rowsF; rw [if_pos h]
/-- A slice of strings of the call's own. -/
def OwnS (W : World) (B : Nat) (v : Value) (L : List ByteArray) : Prop := W.ownsRow B 9 1 v L.length (L.map Value.string)
theorem OwnS.below {w W : World} {B : Nat} {v : Value} {L : List ByteArray} (h : OwnS w B v L) (hb : Below w.heap.size w W) : OwnS W B v L := by
  refine ⟨h.1, ?_⟩
  rcases h.2 with h0 | ⟨g, cap, cur, rfl, hg, hh, q⟩
  · exact .inl h0
  · exact .inr ⟨g, cap, cur, rfl, hg, (hb.block g (Array.getElem?_eq_some_iff.1 hh).1).trans hh, q⟩
theorem OwnS.formL {W : World} {B n : Nat} {v : Value} {L : List ByteArray} (h : OwnS W B v L) (hn : L.length = n) : ∃ A c, v = .slice A n c ∧ n ≤ c ∧ c ≤ maxLen := by
  subst hn
  rcases h.2 with ⟨rfl, h0⟩ | ⟨g, cap, cur, rfl, hg, hh, q, qm, _⟩
  · exact ⟨_, _, by rw [h0], by omega, by unfold maxLen; omega⟩
  · exact ⟨_, _, rfl, q, qm⟩
theorem OwnS.mono {W : World} {B C : Nat} {v : Value} {L : List ByteArray} (h : OwnS W B v L) (hc : C ≤ B) : OwnS W C v L := by
  refine ⟨h.1, ?_⟩
  rcases h.2 with h0 | ⟨g, cap, cur, rfl, hg, r⟩
  · exact .inl h0
  · exact .inr ⟨g, cap, cur, rfl, by omega, r⟩
theorem OwnS.low {W : World} {B : Nat} {v : Value} {L : List ByteArray} (h : OwnS W B v L) {p : Addr} (hp : p.block < B) (x : Value) : OwnS (W.setCell p x) B v L := by
  refine ⟨h.1, ?_⟩
  rcases h.2 with h0 | ⟨g, cap, cur, rfl, hg, hh, r⟩
  · exact .inl h0
  · exact .inr ⟨g, cap, cur, rfl, hg, (Below.heap_setCell _ _ _ _ (by omega)).trans hh, r⟩
theorem OwnS.putObj {W : World} {B l : Nat} {v : Value} {L : List ByteArray} (h : OwnS W B v L) (hp : l < B) (o : Obj) : OwnS (W.putObj l o) B v L := by
  refine ⟨h.1, ?_⟩
  rcases h.2 with h0 | ⟨g, cap, cur, rfl, hg, hh, r⟩
  · exact .inl h0
  · exact .inr ⟨g, cap, cur, rfl, hg, (World.putObj_heap_other (by omega)).trans hh, r⟩
theorem OwnS.nil (W : World) (B : Nat) : OwnS W B (.slice none 0 0) [] := ⟨rfl, .inl ⟨rfl, rfl⟩⟩
theorem info_strG : (Tryd.prog.info? 9).map (fun i => (i.zero, i.size, i.bytes)) = some (some (.string ⟨#[]⟩), 1, 16) := by kernel_rfl
/-- One string is hung on. -/
theorem app_str {W : World} {B : Nat} {v : Value} {L : List ByteArray} {s : ByteArray} {b c : Nat} (h : OwnS W B v L) (hs : W.cell? ⟨b, 0, none⟩ = some (.string s)) (hl : L.length ≤ 1000) (hB : B ≤ W.heap.size) (ty : TypeId) :
    ∃ v' w', (Builtin.append_ #[41, 41] ty #[v, .slice (some ⟨b, 0, none⟩) 1 c]).run Tryd.prog W = .ok v' w' ∧ OwnS w' B v' (L ++ [s]) ∧ Below B W w' := by
  obtain ⟨i0, hinf, hz0, hz1, hz2⟩ := info_parts info_strG
  obtain ⟨v', w', hrun, h1, h2, -⟩ := run_append_own (P := Tryd.prog) W B 41 ty 9 i0 _ 1 16 Tryd.underlying41 hinf hz0 hz1 hz2 (by rfl) (by decide) v L.length (L.map Value.string) h ⟨b, 0, none⟩ 1 c [.string s] (by rfl)
    (fun j u hu => by
      cases j with
      | zero => simp at hu; subst hu; exact hs
      | succ j => simp at hu) (by simp [Value.oneCell']) (by unfold maxLen; omega) (by omega) hB
  refine ⟨v', w', hrun, ?_, (Below.refl _ _).grown h2 hB (fun k e => (h.lt k e).1)⟩
  unfold OwnS
  rw [List.length_append, List.map_append]
  exact h1
theorem one_str (w : World) (s : ByteArray) : ∀ j u, ([.string s] : List Value)[j]? = some u → (w.alloc (.cells #[.string s] 9)).cell? ((⟨w.heap.size, 0, none⟩ : Addr).add j) = some u := by
  intro j u hu
  cases j with
  | zero => simp at hu; subst hu; simp [Addr.add]
  | succ j => simp at hu
theorem own_str1 {W : World} {B : Nat} {v : Value} {L : List ByteArray} {s : ByteArray} (h : W.ownsRow B 9 1 v (L.length + 1) (L.map Value.string ++ [.string s])) : OwnS W B v (L ++ [s]) := by
  unfold OwnS
  rw [List.length_append, List.map_append]
  exact h
theorem ret_same {a b : Value} (h : a = b) : Ending.returned a = .returned b := by rw [h]
set_option maxRecDepth 100000 in
set_option maxHeartbeats 4000000 in
theorem rrows_any (f : Fr) (v : Value) (w : World) (h : FrAt w v f) :
    Calls Tryd.prog 21 #[v] w fun e w' => ∃ v', e = .returned v' ∧ OwnS w' w.heap.size v' (rowsF f) ∧ Below w.heap.size w w' := by
  obtain ⟨A, cap, rfl, hc, hcap, hcl⟩ := h
  obtain ⟨rows, cols, cs, row, col⟩ := f
  obtain ⟨n, hn⟩ : ∃ n, cs.length = n := ⟨_, rfl⟩
  have HFR := hide (show ∀ W, Below w.heap.size w W → FrAt W (frV ⟨rows, cols, cs, row, col⟩ A n cap) ⟨rows, cols, cs, row, col⟩ from fun W hW => ⟨A, cap, by dsimp only; rw [hn], hc, hcap, hcl.below hW⟩)
  have HN := hide hn
  have HCL := hide hcl
  unfold frV at HFR ⊢
  dsimp only at hc HFR HCL ⊢
  rw [hn] at hc ⊢
  clear hcl hn
  have HK := hide (Blk.new w 28 (frCells rows cols (.slice A n cap) row col))
  have HB0 := hide (show Below w.heap.size w (w.alloc (.cells (frCells rows cols (.slice A n cap) row col).toArray 28)) from (Below.refl _ _).alloc (Nat.le_refl _) _)
  by_cases hv : validF ⟨rows, cols, cs, row, col⟩ = true
  case neg =>
    have hv0 : validF ⟨rows, cols, cs, row, col⟩ = false := by simpa using hv
    have HV := hide hv0
    have HP := hide (rowsF_bad hv0)
    clear hv hv0
    go_enter Tryd.func21, Tryd.ntmps21
    go_wp2_with (first | (go_at_call 27; refine (rvalid_is ⟨rows, cols, cs, row, col⟩ _ HV.out _ _ (HFR.out _ HB0.out)).mono ?_; rintro e w1 ⟨rfl, hb1⟩; have HB1 := hide (HB0.out.trans (hb1.mono HB0.out.size)); clear hb1) | fail)
    go_ret
    exact ⟨_, rfl, by rw [HP.out]; exact OwnS.nil _ _, HB1.out⟩
  have HV := hide hv
  have HP := hide (rowsF_ok hv)
  obtain ⟨R, C, hR, hC, h1, h2, h3, h4, hL, -⟩ := valid_facts hv
  dsimp only at hR hC hL
  subst hR hC
  dsimp only at HP
  rw [Int.toNat_natCast, Int.toNat_natCast] at HP
  obtain ⟨b, o, hA, -⟩ := ClsAt.at (j := 0) HCL.out (List.getElem?_eq_getElem (show 0 < cs.length by rw [hL]; have := (size_small h1 h2 h3 h4).1; omega))
  subst hA
  have hnRC : n = R * C := by rw [← HN.out]; exact hL
  have HNRC := hide hnRC
  obtain ⟨-, hs2⟩ := size_small h1 h2 h3 h4
  rw [← hnRC] at hs2
  obtain ⟨i0, hinf, hz0, hz1, hz2⟩ := info_parts info_strG
  clear hv hL hnRC
  go_enter Tryd.func21, Tryd.ntmps21
  go_wp2_with (first | (go_at_call 27; refine (rvalid_is ⟨R, C, cs, row, col⟩ _ HV.out _ _ (HFR.out _ HB0.out)).mono ?_; rintro e w1 ⟨rfl, hb1⟩; have HK1 := hide (HK.out.below hb1); have HB1 := hide (HB0.out.trans (hb1.mono HB0.out.size)); have hz9 := HK1.out.lt; obtain ⟨k0, k1, k2, k3, k4, kf⟩ := fr_reads HK1.out; clear hb1) | fail)
  go_loopw [3, 4] (fun sv iv wr => ∃ (i : Nat) (A : Option Addr) (c : Nat), iv = .int .i64 i ∧ i ≤ R ∧ sv = .slice A i c ∧ c ≤ maxLen ∧ Hid (OwnS wr (w.heap.size + 1) (.slice A i c) (rowsTo cs C i)) ∧ Hid (Blk wr w.heap.size 28 (frCells R C (.slice (some ⟨b, o, none⟩) n cap) row col)) ∧ Hid (Below w.heap.size w wr)) (fun _ iv _ => R - (intOf iv).toNat)
  case atStart => exact ⟨0, none, 0, rfl, by omega, rfl, by unfold maxLen; omega, hide (OwnS.nil _ _), HK1, HB1⟩
  case round =>
    clear HK HB0 HK1 HB1 k0 k1 k2 k3 k4 kf
    obtain ⟨i, A, c, rfl, hi, rfl, hcm, HOS, HK, HB⟩ := hrel
    obtain ⟨k0, k1, k2, k3, k4, kf⟩ := fr_reads HK.out
    by_cases hlt : i < R
    · have hp1 := part_len (L := cs) (R := R) (C := C) (i := i) (by rw [HN.out]; exact HNRC.out) hlt
      rw [← HNRC.out] at hp1
      have HSL := hide (show ∀ j, j < C → (rowL cs C i)[j]? = cs[i * C + j]? from fun j hj => rowL_at hj)
      obtain ⟨p, hp⟩ : ∃ p, i * C = p := ⟨_, rfl⟩
      have hw1 := wrap_mul hp (by omega)
      rw [hp] at hp1 HSL
      have HSLN := hide (show (rowL cs C i).length = C from rowL_len (rows := R) (by rw [HN.out]; exact HNRC.out) hlt)
      clear hp
      go_wp2
      go_loopw [5, 6] (fun sv iv wr => ∃ (j : Nat) (s : ByteArray), iv = .int .i64 j ∧ j ≤ C ∧ sv = .string s ∧ s.size ≤ 4 * j ∧ Hid (s.data.toList = shB ((rowL cs C i).take j)) ∧ Hid (OwnS wr (w.heap.size + 1) (.slice A i c) (rowsTo cs C i)) ∧ Hid (Blk wr w.heap.size 28 (frCells R C (.slice (some ⟨b, o, none⟩) n cap) row col)) ∧ Hid (Below w.heap.size w wr)) (fun _ iv _ => C - (intOf iv).toNat)
      case atStart => exact ⟨0, ⟨#[]⟩, rfl, by omega, rfl, by simp [ByteArray.size], hide (by simp [shB]), HOS, HK, HB⟩
      case round =>
        clear HOS HK HB k0 k1 k2 k3 k4 kf
        obtain ⟨j, s, rfl, hj, rfl, hsz, HS, HOS, HK, HB⟩ := hrel
        obtain ⟨k0, k1, k2, k3, k4, kf⟩ := fr_reads HK.out
        by_cases hjC : j < C
        · obtain ⟨X, hX⟩ : ∃ X, cs[p + j]? = some X := ⟨_, List.getElem?_eq_getElem (by rw [HN.out]; omega)⟩
          have HST := hide (shB_step (show (rowL cs C i)[j]? = some X by rw [HSL.out j hjC]; exact hX))
          obtain ⟨x0, x1, x2, x3, x4, x5⟩ := (show ClsAt wr _ _ from HCL.out.below HB.out).get hX
          have hpj : (p : Int) + (j : Int) < (n : Int) := by omega
          clear hX
          obtain ⟨xr, xw, xf, xb, xu, xi⟩ := X
          dsimp only at x0 x1 x2 x3 x4 x5 HST
          by_cases hw0 : 0 < xw
          · rw [if_pos hw0] at HST
            have hpl := putS_le xr
            have HPUT := hide (put_any xr wr)
            obtain ⟨t, ht⟩ : ∃ t, putS xr = t := ⟨_, rfl⟩
            rw [ht] at HST hpl HPUT
            have hsl : ((s.size : Int) + (t.size : Int)) ≤ 9223372036854775807 := by omega
            clear ht
            go_wp2_with (first | (go_at_call 43; refine HPUT.out.mono ?_; rintro e w2 ⟨rfl, hb2⟩; have HOS2 := hide (HOS.out.below hb2); have HK2 := hide (HK.out.below hb2); have HB2 := hide (HB.out.trans (hb2.mono HB.out.size)); clear hb2) | fail)
            go_roundw
            case rel => exact ⟨j + 1, s ++ t, by go_num, by omega, by first | rfl | simp, by rw [ByteArray.size_append]; omega, hide (by rw [HST.out, ByteArray.data_append, Array.toList_append, HS.out]), HOS2, HK2, HB2⟩
            case measure => simp [intOf]; omega
          · rw [if_neg hw0, List.append_nil] at HST
            go_wp2
            go_roundw
            case rel => exact ⟨j + 1, s, by go_num, by omega, rfl, by omega, hide (by rw [HST.out, HS.out]), HOS, HK, HB⟩
            case measure => simp [intOf]; omega
        · obtain rfl : j = C := by omega
          have HSS := hide (show s = rowS cs j i by
            unfold rowS
            have := HS.out
            rw [List.take_of_length_le (by rw [HSLN.out]; exact Nat.le_refl _)] at this
            rw [← this])
          have hcell : (wr.alloc (.cells #[.string s] 9)).cell? ⟨wr.heap.size, 0, none⟩ = some (.string s) := by simp
          have HOS1 := hide (HOS.out.below ((Below.refl _ _).alloc (Nat.le_refl _) (.cells #[.string s] 9)))
          have hlt9 := HK.out.lt
          clear hcell
          go_wp2_with (first
            | (at_builtin; refine wpList_append_own _ rfl _ _ 41 rfl (w.heap.size + 1) 9 i0 _ 1 16 Tryd.underlying41 hinf hz0 hz1 hz2 (by rfl) (by decide) (.slice A i c) _ _ rfl HOS1.out ⟨wr.heap.size, 0, none⟩ 1 1 [.string s] rfl rfl (one_str wr s) (by simp [Value.oneCell']) (by rw [rowsTo_len]; unfold maxLen; omega) (by rw [rowsTo_len]; omega) (by simp; omega) ?_; intro v2 w2 ho1 hgr _; have ho2 := own_str1 ho1; obtain ⟨A2, c2, rfl, hc2, hm2⟩ := ho2.formL (n := i + 1) (by rw [List.length_append, rowsTo_len]; rfl); have hb2 := (Below.refl (w.heap.size + 1) (wr.alloc (.cells #[.string s] 9))).grown hgr (by simp; omega) (fun k e => (HOS1.out.lt k e).1); have HK2 := hide ((HK.out.alloc (.cells #[.string s] 9)).under hb2 (Nat.lt_succ_self _)); have HB2 := hide ((HB.out.alloc HB.out.size (.cells #[.string s] 9)).trans (hb2.mono (Nat.le_succ _))); have HOS2 := hide ho2; clear ho1 ho2 hb2 hgr)
            | fail)
          go_roundw
          case rel => exact ⟨i + 1, A2, c2, by go_num, by omega, rfl, hm2, hide (by rw [rowsTo_step, ← HSS.out]; exact HOS2.out), HK2, HB2⟩
          case measure => simp [intOf]; omega
    · obtain rfl : i = R := by omega
      go_wp2
      go_ret
      exact ⟨_, rfl, by rw [HP.out]; exact HOS.out.mono (Nat.le_succ _), HB.out⟩
end Go.Proofs.YtojjdckpbmjjdaaDoor
