/- Contract of pieces.cut. -/
import Derived.Test.YtmllbaacjodccaaQsome
namespace Go.Proofs.Ytmllbaacjodccaa
open Go.RowKit
variable {R : Nat → Prop}

/-- The pieces ahead of a place. -/
def cutA : List ByteArray → Nat → List ByteArray
  | [], _ => []
  | z :: r, a => if a < z.size then onePiece (z.extract 0 a) else z :: cutA r (a - z.size)
/-- The pieces behind it. -/
def cutB : List ByteArray → Nat → List ByteArray
  | [], _ => []
  | z :: r, a => if a < z.size then z.extract a z.size :: r else cutB r (a - z.size)
theorem strs_len {W : World} {A : Option Addr} {n c : Nat} {zs : List ByteArray} (h : Strs R W (.slice A n c) zs) : n = zs.length ∧ n ≤ c := by
  obtain ⟨A', cap, e, hc, hs⟩ := h
  injection e with e1 e2 e3
  omega
theorem strs_cell {W : World} {b o n c : Nat} {zs : List ByteArray} (h : Strs R W (.slice (some ⟨b, o, none⟩) n c) zs) (j : Nat) (hj : j < zs.length) :
    (TyR R W b ∧ W.frozen? ⟨b, o + j, none⟩ = false) ∧ W.cell? ⟨b, o + j, none⟩ = some (.string (zs[j]?.getD ByteArray.empty)) := by
  obtain ⟨A', cap, e, hc, hs⟩ := h
  obtain ⟨b', o', e', h'⟩ := hs j hj
  injection e with e1 e2 e3
  rw [← e1] at e'
  injection e' with e'
  injection e' with e1 e2
  subst e1 e2
  exact h'
theorem strs_take {W : World} {b o n c : Nat} {zs : List ByteArray} (h : Strs R W (.slice (some ⟨b, o, none⟩) n c) zs) (m : Nat) (hm : m ≤ zs.length) : Strs R W (.slice (some ⟨b, o, none⟩) m c) (zs.take m) := by
  have hl := strs_len h
  have e1 : (zs.take m).length = m := by rw [List.length_take]; omega
  refine ⟨_, c, by rw [e1], by omega, fun j hj => ⟨b, o, rfl, (strs_cell h j (by omega)).1, ?_⟩⟩
  rw [(strs_cell h j (by omega)).2, List.getElem?_take_of_lt (by omega)]
theorem strs_drop {W : World} {b o n c : Nat} {zs : List ByteArray} (h : Strs R W (.slice (some ⟨b, o, none⟩) n c) zs) (m : Nat) (hm : m ≤ zs.length) (A : Option Addr) (hA : A = some ⟨b, o + m, none⟩ ∨ m = zs.length) : Strs R W (.slice A (n - m) (c - m)) (zs.drop m) := by
  have hl := strs_len h
  have e1 : (zs.drop m).length = n - m := by rw [List.length_drop]; omega
  refine ⟨_, c - m, by rw [e1], by omega, fun j hj => ?_⟩
  rcases hA with rfl | hA
  · refine ⟨b, o + m, rfl, ?_⟩
    have := strs_cell h (m + j) (by omega)
    rw [← Nat.add_assoc] at this
    rw [List.getElem?_drop]
    exact this
  · omega
theorem pre_app {W : World} {B b o n c : Nat} {zs : List ByteArray} (h : Strs R W (.slice (some ⟨b, o, none⟩) n c) zs) (m : Nat) (hm : m < zs.length) : App R W B (.slice (some ⟨b, o, none⟩) m c) (zs.take m) (zs.drop m) := by
  have hl := strs_len h
  have e1 : (zs.take m).length = m := by rw [List.length_take]; omega
  have e2 : (zs.drop m).length = n - m := by rw [List.length_drop]; omega
  refine .inr ⟨b, o, c, by rw [e1], World.block_lt_of_cell? _ _ (strs_cell h 0 (by omega)).2, by omega, fun j hj => ?_, fun hr => ⟨fun j hj => (strs_cell h j (by omega)).1.2, (strs_cell h 0 (by omega)).1.1, .inr fun j hj => ?_⟩⟩
  · rw [(strs_cell h j (by omega)).2, List.getElem?_take_of_lt (by omega)]
  · rw [e1, List.getElem?_drop]
    have := strs_cell h (m + j) (by omega)
    rw [← Nat.add_assoc] at this
    exact this.2
theorem end_app {W : World} {B : Nat} {A : Option Addr} {n c : Nat} {zs : List ByteArray} (h : Strs R W (.slice A n c) zs) : Strs R W (.slice A zs.length zs.length) zs ∧ App R W B (.slice A zs.length zs.length) zs [] := by
  have h0 := h
  obtain ⟨A', cap, e, hc, hs⟩ := h
  injection e with e1 e2 e3
  subst e1 e2 e3
  refine ⟨⟨A, _, rfl, Nat.le_refl _, hs⟩, ?_⟩
  cases zs with
  | nil => exact .inl ⟨A, rfl, rfl⟩
  | cons z l =>
    obtain ⟨b, o, rfl, _, hcell⟩ := hs 0 (by simp)
    exact .inr ⟨b, o, _, rfl, World.block_lt_of_cell? _ _ hcell, Nat.le_refl _, fun j hj => (strs_cell h0 j hj).2, fun hr => ⟨fun j hj => (strs_cell h0 j (by simpa using hj)).1.2, (strs_cell h0 0 (by simp)).1.1, .inr fun j hj => by simp at hj⟩⟩
theorem one_app {W : World} {B g : Nat} {x : ByteArray} (bs : List ByteArray) (h : Strs R W (.slice (some ⟨g, 0, none⟩) 1 1) [x]) : App R W B (.slice (some ⟨g, 0, none⟩) 1 1) [x] bs := by
  have h0 := strs_cell h 0 (by simp)
  refine .inr ⟨g, 0, 1, rfl, World.block_lt_of_cell? _ _ h0.2, by simp, fun j hj => (strs_cell h j hj).2, fun hr => ?_⟩
  have hb : bs = [] := by cases bs with | nil => rfl | cons a l => exact absurd hr (by simp only [List.length_cons, List.length_nil]; omega)
  subst hb
  exact ⟨fun j hj => (strs_cell h j (by simpa using hj)).1.2, h0.1.1, .inr fun j hj => by simp at hj⟩
theorem take_cut {zs : List ByteArray} {m a b : Nat} {z : ByteArray} (hz : zs[m]? = some z) : cutA (zs.drop m) a = (if a < z.size then onePiece (z.extract 0 a) else z :: cutA (zs.drop (m + 1)) (a - z.size)) ∧ cutB (zs.drop m) a = (if a < z.size then z.extract a z.size :: zs.drop (m + 1) else cutB (zs.drop (m + 1)) (a - z.size)) := by
  obtain ⟨hlt, he⟩ := List.getElem?_eq_some_iff.1 hz
  rw [List.drop_eq_getElem_cons hlt, he]
  exact ⟨rfl, rfl⟩
theorem below_drewP {B : Nat} {a w : World} (h : Below B a w) : Below B a w.drew := ⟨h.os, h.tape, h.output, h.size, h.block⟩
def CutOK (R : Nat → Prop) (w : World) (zs : List ByteArray) (a : Nat) (e : Ending) (w' : World) : Prop :=
  ∃ va vb, e = .returned (.tuple #[va, vb]) ∧ Strs R w' va (cutA zs a) ∧ Strs R w' vb (cutB zs a) ∧ App R w' w.heap.size va (cutA zs a) (cutB zs a) ∧ Below w.heap.size w w'

theorem hor_app {w W w1 : World} {b o m cap a' : Nat} {zs : List ByteArray} {z : ByteArray} {v1 : Value} (hB1 : Below w.heap.size w w1) (hpre : App R w w.heap.size (.slice (some ⟨b, o, none⟩) m cap) (zs.take m) (zs.drop m)) (hz : zs[m]? = some z) (haz : a' < z.size) (hsz : w.heap.size ≤ W.heap.size)
    (hor : ((z.extract 0 a').size = 0 ∧ v1 = .slice (some ⟨b, o, none⟩) m cap) ∨ ∀ bs, App R w1 W.heap.size v1 (zs.take m ++ onePiece (z.extract 0 a')) bs) : App R w1 w.heap.size v1 (zs.take m ++ onePiece (z.extract 0 a')) (z.extract a' z.size :: zs.drop (m + 1)) := by
  rcases hor with ⟨h0, rfl⟩ | hor
  · have ha : a' = 0 := by rw [ByteArray.size_extract] at h0; omega
    subst ha
    obtain ⟨hlt, he⟩ := List.getElem?_eq_some_iff.1 hz
    rw [no_piece _ h0, List.append_nil, ByteArray.extract_zero_size, ← he, ← List.drop_eq_getElem_cons hlt]
    exact hpre.below hB1
  · exact (hor _).weaken hsz
theorem cut_end {w w1 wf : World} {m q a a' : Nat} {zs : List ByteArray} {z : ByteArray} {v1 v2 : Value} (hr : cutA zs a = zs.take m ++ onePiece (z.extract 0 a') ∧ cutB zs a = z.extract a' z.size :: zs.drop (m + 1)) (hq : m + 1 = q)
    (hs1 : Strs R w1 v1 (zs.take m ++ onePiece (z.extract 0 a'))) (hor : App R w1 w.heap.size v1 (zs.take m ++ onePiece (z.extract 0 a')) (z.extract a' z.size :: zs.drop (m + 1))) (hs2 : Strs R wf v2 ([z.extract a' z.size] ++ zs.drop q)) (hb : Below w1.heap.size w1 wf) (hB : Below w.heap.size w wf) :
    CutOK R w zs a (.returned (.tuple #[v1, v2])) wf := by
  subst hq
  refine ⟨_, _, rfl, ?_, ?_, ?_, hB⟩
  · rw [hr.1]; exact hs1.below hb
  · rw [hr.2]; exact hs2
  · rw [hr.1, hr.2]; exact hor.below hb

set_option maxHeartbeats 2000000 in
theorem cut_any (v : Value) (zs : List ByteArray) (a : Nat) (w : World) (h : Strs R w v zs) (hl : zs.length ≤ 1000) (ha : a ≤ 100000) (hR : Lows R w.heap.size) :
    Calls Try.prog 26 #[v, .int .i64 a] w fun e w' => CutOK R w zs a e w' := by
  have H := hide h
  obtain ⟨A, cap, rfl, hc, hs⟩ := h
  have HS := hide hs
  clear hs
  go_enter Try.func26, Try.ntmps26
  go_wp2
  go_loopw [1, 10] (fun at1 k wr => ∃ m a' : Nat, m ≤ zs.length ∧ a' ≤ a ∧ k = .int .i64 m ∧ at1 = .int .i64 a' ∧ w = wr ∧ Hid (cutA zs a = zs.take m ++ cutA (zs.drop m) a' ∧ cutB zs a = cutB (zs.drop m) a')) (fun _ k _ => zs.length - (intOf k).toNat)
  case atStart => exact ⟨0, a, by omega, by omega, rfl, rfl, rfl, hide ⟨by simp, by simp⟩⟩
  case round =>
    obtain ⟨m, a', hm, ha', rfl, rfl, rfl, HC⟩ := hrel
    by_cases hlt : m < zs.length
    · obtain ⟨b, o, rfl, -, hcell⟩ := HS.out m hlt
      have hz : zs[m]? = some (zs[m]?.getD ByteArray.empty) := by rw [List.getElem?_eq_getElem hlt]; rfl
      generalize zs[m]?.getD ByteArray.empty = z at *
      have HZ := hide hz
      have HT := hide (take_cut (a := a') (b := 0) hz)
      clear hz
      by_cases haz : a' < z.size
      · have h1 := HC.out
        have h2 := HT.out
        rw [h2.1, h2.2, if_pos haz, if_pos haz] at h1
        have HR := hide h1
        have hsz : a' ≤ z.size := by omega
        have hlen := strs_len H.out
        have htl : (zs.take m).length = m := by rw [List.length_take]; omega
        have hdl : (zs.drop (m + 1)).length = zs.length - (m + 1) := List.length_drop
        have HTk := hide (strs_take H.out m (by omega))
        have HDr := hide (fun (A : Option Addr) hA => strs_drop H.out (m + 1) (by omega) A hA)
        have HPr := hide (pre_app (B := w.heap.size) H.out m hlt)
        clear h1 h2 HT HC
        have hmc : m ≤ cap := by omega
        obtain ⟨q, hq⟩ : ∃ q, m + 1 = q := ⟨_, rfl⟩
        rw [hq] at hdl HDr
        have hw1 : IntKind.i64.wrap ((m : Int) + 1) = (q : Int) := by rw [Go.wrap_small _ (by omega) (by omega)]; omega
        have hmq : m ≤ q := by omega
        have hql : q ≤ zs.length := by omega
        have hqc : q ≤ cap := by omega
        have HQ := hide hq
        clear hq
        have hd0 : Below w.heap.size w w.drew := below_drewP (Below.refl _ _)
        have HD0 := hide hd0
        have hal : Below w.heap.size w (w.alloc (.cells #[.string (z.extract a' z.size)] 9)).drew := below_drewP ((Below.refl _ _).alloc (Nat.le_refl _) _)
        have HD1 := hide hal
        have HX := hide ((one_new hR (z.extract a' z.size)).below (below_drewP (Below.refl _ _)))
        clear hd0 hal
        have hlen9 : [z.extract a' z.size].length + (zs.drop q).length ≤ 100000 := by rw [hdl]; simp; omega
        by_cases hce : cap = q
        · subst hce
          have hzc : zs.length = cap := by omega
          have HDS := hide (HDr.out (some ⟨b, o, none⟩) (.inr (by omega)))
          rw [show zs.length - cap = 0 by omega, Nat.sub_self] at HDS
          go_wp2
          go_region_law (first
            | (refine step_fn rfl 23 _ Try.func23 (by decide) (by simp [Try.f23]) (.tmp 21) (.tmp 24) _ rfl (.slice (some ⟨b, o, none⟩) m cap) (.string (z.extract 0 a')) (by simp [Act.eval, Act.put]) (by simp [Act.eval, Act.put]) _ (some_gen _ (zs.take m) _ _ (HTk.out.below (by first | exact HD0.out | exact HD1.out | exact HB2.out)) (by omega) (by first | exact hR.up HD0.out.size | exact hR.up HD1.out.size | exact hR.up HB2.out.size)) ?_; rintro v1 w1 ⟨hs1, hb1, hor⟩; have HB1 := hide (show Below w.heap.size w w1 from (by first | exact HD0.out.trans (hb1.mono HD0.out.size) | exact HD1.out.trans (hb1.mono HD1.out.size) | exact HB2.out.trans (hb1.mono HB2.out.size))); have HB1a := hide (HB1.out.alloc HB1.out.size (.cells #[.string (z.extract a' z.size)] 9)); have HA1 := hide ((Below.refl w1.heap.size w1).alloc (Nat.le_refl _) (.cells #[.string (z.extract a' z.size)] 9)); have HX1a := hide (one_new (hR.up HB1.out.size) (z.extract a' z.size)); have HOR := hide (hor_app HB1.out HPr.out HZ.out haz (by first | exact HD0.out.size | exact HD1.out.size | exact HB2.out.size) hor); have HS1 := hide hs1; have HR1 := hide hb1; (first | (have HX1 := hide (HX.out.below hb1)) | skip); clear hs1 hb1 hor)
            | (refine step_app rfl (.tmp 29) (.tmp 33) rfl _ (Nat.le_refl _) (by first | exact hR.up HD1.out.size | exact hR.up HB1a.out.size | exact hR.up HB1.out.size) _ _ [z.extract a' z.size] (zs.drop cap) rfl rfl (by first | exact one_app _ HX.out | exact one_app _ HX1a.out | exact one_app _ HX1.out) (by first | exact HDS.out.below HD1.out | exact HDS.out.below HB1a.out | exact HDS.out.below HB1.out) hlen9 ?_; intro v2 w2 hs2 hb2; have HB2 := hide (show Below w.heap.size w w2 from (by first | exact HD1.out.trans (hb2.mono HD1.out.size) | exact HB1a.out.trans (hb2.mono HB1a.out.size) | exact HB1.out.trans (hb2.mono HB1.out.size))); have HS2 := hide hs2; have HR2 := hide hb2; clear hs2 hb2))
          all_goals go_wp2
          all_goals go_ret2
          all_goals (first
            | exact cut_end HR.out HQ.out HS1.out HOR.out HS2.out (HA1.out.trans (HR2.out.mono HA1.out.size)) HB2.out
            | exact cut_end HR.out HQ.out HS1.out HOR.out HS2.out HR2.out HB2.out
            | exact cut_end HR.out HQ.out HS1.out HOR.out (HS2.out.below HR1.out) (Below.refl _ _) HB1.out)
        · have HDS := hide (HDr.out (some ⟨b, o + q, none⟩) (.inl rfl))
          go_wp2
          go_region_law (first
            | (refine step_fn rfl 23 _ Try.func23 (by decide) (by simp [Try.f23]) (.tmp 21) (.tmp 24) _ rfl (.slice (some ⟨b, o, none⟩) m cap) (.string (z.extract 0 a')) (by simp [Act.eval, Act.put]) (by simp [Act.eval, Act.put]) _ (some_gen _ (zs.take m) _ _ (HTk.out.below (by first | exact HD0.out | exact HD1.out | exact HB2.out)) (by omega) (by first | exact hR.up HD0.out.size | exact hR.up HD1.out.size | exact hR.up HB2.out.size)) ?_; rintro v1 w1 ⟨hs1, hb1, hor⟩; have HB1 := hide (show Below w.heap.size w w1 from (by first | exact HD0.out.trans (hb1.mono HD0.out.size) | exact HD1.out.trans (hb1.mono HD1.out.size) | exact HB2.out.trans (hb1.mono HB2.out.size))); have HB1a := hide (HB1.out.alloc HB1.out.size (.cells #[.string (z.extract a' z.size)] 9)); have HA1 := hide ((Below.refl w1.heap.size w1).alloc (Nat.le_refl _) (.cells #[.string (z.extract a' z.size)] 9)); have HX1a := hide (one_new (hR.up HB1.out.size) (z.extract a' z.size)); have HOR := hide (hor_app HB1.out HPr.out HZ.out haz (by first | exact HD0.out.size | exact HD1.out.size | exact HB2.out.size) hor); have HS1 := hide hs1; have HR1 := hide hb1; (first | (have HX1 := hide (HX.out.below hb1)) | skip); clear hs1 hb1 hor)
            | (refine step_app rfl (.tmp 29) (.tmp 33) rfl _ (Nat.le_refl _) (by first | exact hR.up HD1.out.size | exact hR.up HB1a.out.size | exact hR.up HB1.out.size) _ _ [z.extract a' z.size] (zs.drop q) rfl rfl (by first | exact one_app _ HX.out | exact one_app _ HX1a.out | exact one_app _ HX1.out) (by first | exact HDS.out.below HD1.out | exact HDS.out.below HB1a.out | exact HDS.out.below HB1.out) hlen9 ?_; intro v2 w2 hs2 hb2; have HB2 := hide (show Below w.heap.size w w2 from (by first | exact HD1.out.trans (hb2.mono HD1.out.size) | exact HB1a.out.trans (hb2.mono HB1a.out.size) | exact HB1.out.trans (hb2.mono HB1.out.size))); have HS2 := hide hs2; have HR2 := hide hb2; clear hs2 hb2))
          all_goals go_wp2
          all_goals go_ret2
          all_goals (first
            | exact cut_end HR.out HQ.out HS1.out HOR.out HS2.out (HA1.out.trans (HR2.out.mono HA1.out.size)) HB2.out
            | exact cut_end HR.out HQ.out HS1.out HOR.out HS2.out HR2.out HB2.out
            | exact cut_end HR.out HQ.out HS1.out HOR.out (HS2.out.below HR1.out) (Below.refl _ _) HB1.out)
      · go_wp2
        go_roundw
        case rel => 
          refine ⟨m + 1, a' - z.size, by omega, by omega, by go_num, by go_num, (by first | rfl | trivial), hide ?_⟩
          have h1 := HC.out
          have h2 := HT.out
          rw [h2.1, h2.2, if_neg haz, if_neg haz] at h1
          rw [List.take_add_one, HZ.out]
          exact ⟨by rw [h1.1]; simp, h1.2⟩
        case measure => simp [intOf]; omega
    · obtain rfl : m = zs.length := by omega
      go_wp2
      go_ret2
      have h1 := HC.out
      rw [List.drop_length, List.take_length] at h1
      have e1 : cutA zs a = zs := by rw [h1.1]; simp [cutA]
      have e2 : cutB zs a = [] := by rw [h1.2]; rfl
      have h2 := end_app (B := w.heap.size) H.out
      exact ⟨_, _, rfl, by rw [e1]; exact h2.1, by rw [e2]; exact strs_nil _, by rw [e1, e2]; exact h2.2, Below.refl _ _⟩
end Go.Proofs.Ytmllbaacjodccaa
