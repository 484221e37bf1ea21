/- Contract of layout.Frame, where there may be a frame of that size. Plain: what has been put in, or made of another size, may be; how far it differs. No program in sight. Contracts of grids.Diff and limnerref06.Diff. Plain: the document's steps of putting a rune into a row of a screen, one after the other. Plain: the steps of making a frame of another size, on both sides. A copy into a part of a slice of the call's own. Contract of grids.Resize. Contract of (*strings.Builder).WriteString, and of the function that it asks first. What the rows of a frame show; contract of limnerref06.Rows. Contract of grids.Rows: a range over slices.Chunk, a strings.Builder in each round. -/
import Derived.Test.YtmpajkfbiocmiaaDoorZ4
import Derived.Test.YtmpajkfbiocmiaaDoorZ2
import Derived.Test.YtmpajkfbiocmiaaDoorShelf
import Derived.Lib.Builder
import Derived.Lib.AppendStr
import Derived.Test.YtmpajkfbiocmiaaDoorZ1
import Derived.Stop.RegionWithIn
namespace Go.Proofs.YtmpajkfbiocmiaaDoor
open Go.RowKit

/-- The first i of n cells are the sheet's, from t on; all others are blanks. -/
def cpY (L : List Cl) (t n i : Nat) : List Cl := (List.range n).map fun j => if j < i then L[t + j]?.getD blankC else blankC
theorem cpY_len (L : List Cl) (t n i : Nat) : (cpY L t n i).length = n := by simp [cpY]
theorem cpY_at {L : List Cl} {t n i j : Nat} (h : j < n) : (cpY L t n i)[j]? = some (if j < i then L[t + j]?.getD blankC else blankC) := by simp [cpY, h]
theorem cpY_0 (L : List Cl) (t n : Nat) : cpY L t n 0 = List.replicate n blankC := by
  apply List.ext_getElem?
  intro j
  by_cases h : j < n
  · rw [cpY_at h]; simp [h]
  · rw [List.getElem?_eq_none (by rw [cpY_len]; omega), List.getElem?_eq_none (by simp; omega)]
theorem cpY_step {L : List Cl} {t n i : Nat} {x : Cl} (h : i < n) (hx : L[t + i]? = some x) : (cpY L t n i).set i x = cpY L t n (i + 1) := by
  apply List.ext_getElem?
  intro j
  by_cases hj : j < n
  · rw [List.getElem?_set, cpY_len, cpY_at hj, cpY_at hj]
    by_cases e : i = j
    · subst e; rw [if_pos rfl, if_pos h, if_pos (by omega), hx]; rfl
    · rw [if_neg e]
      by_cases hl : j < i
      · rw [if_pos hl, if_pos (by omega)]
      · rw [if_neg hl, if_neg (by omega)]
  · rw [List.getElem?_eq_none (by simp [cpY_len]; omega), List.getElem?_eq_none (by rw [cpY_len]; omega)]
theorem cpY_skip {L : List Cl} {t n i : Nat} (h : L.length ≤ t + i) : cpY L t n i = cpY L t n (i + 1) := by
  apply List.ext_getElem?
  intro j
  by_cases hj : j < n
  · rw [cpY_at hj, cpY_at hj]
    by_cases hl : j < i
    · rw [if_pos hl, if_pos (by omega)]
    · rw [if_neg hl]
      by_cases e : j = i
      · subst e; rw [if_pos (by omega), List.getElem?_eq_none h]; rfl
      · rw [if_neg (by omega)]
  · rw [List.getElem?_eq_none (by rw [cpY_len]; omega), List.getElem?_eq_none (by rw [cpY_len]; omega)]
/-- The frame of a view. -/
def frameY (R C : Nat) (s : ByteArray) (Ss : List Sty) (cur : Int) (pr mo : ByteArray) : Fr :=
  let v := viewY C s Ss cur pr mo
  let t := v.2 / C + 1 - R
  ⟨R, C, cpY v.1 (t * C) (R * C) (R * C), (v.2 / C - t : Nat), (v.2 % C : Nat)⟩
theorem div_int (a b : Nat) : ((a : Int) / (b : Int)) = ((a / b : Nat) : Int) := by push_cast; rfl
theorem fitsY_ge (C : Nat) (L : List Cl) (r : Int) : L.length ≤ (fitsY C L r).length := by unfold fitsY; split <;> simp
theorem putY_ge (L : List Cl) (r w : Int) (s : Sty) : L.length ≤ (putY L r w s).length := by unfold putY; split <;> simp
theorem runeY_ge (C : Nat) (L : List Cl) (r : Int) (s : Sty) : L.length ≤ (runeY C L r s).length := by
  unfold runeY
  split
  · simp
  · exact Nat.le_trans (fitsY_ge C L r) (putY_ge _ _ _ _)
theorem lineY_ge (C : Nat) (L : List Cl) : L.length ≤ (lineY C L).length := by unfold lineY; simp
theorem promY_ge (C : Nat) (s : ByteArray) : ∀ f pos L, L.length ≤ (promY C s f pos L).length
  | 0, _, L => Nat.le_refl _
  | f + 1, pos, L => by
    unfold promY
    split
    · refine Nat.le_trans ?_ (promY_ge C s f _ _)
      split
      · exact Nat.le_refl _
      · exact runeY_ge _ _ _ _
    · exact Nat.le_refl _
theorem layY_bd {C : Nat} {s mo : ByteArray} {Ss : List Sty} {at0 : Nat} (hC : C ≤ 200) (hm : mo.size ≤ 100) : ∀ f i L cur, cur ≤ L.length → (layY C s mo Ss at0 f i L cur).2 ≤ (layY C s mo Ss at0 f i L cur).1.length ∧ (layY C s mo Ss at0 f i L cur).1.length ≤ L.length + 1010 * f
  | 0, i, L, cur, h => ⟨h, by simp [layY]⟩
  | f + 1, i, L, cur, h => by
    unfold layY
    split
    · have e1 := fitsY_len C L ((Utf8.decode s i).1 : Int)
      have e2 := fitsY_ge C L ((Utf8.decode s i).1 : Int)
      generalize fitsY C L ((Utf8.decode s i).1 : Int) = M at *
      have e3 := promY_len C mo mo.size 0 (lineY C M)
      have e4 := promY_ge C mo mo.size 0 (lineY C M)
      have e5 := lineY_len C M
      have e6 := lineY_ge C M
      have e7 := runeY_len C M ((Utf8.decode s i).1 : Int) (styAt Ss i)
      have e8 := runeY_ge C M ((Utf8.decode s i).1 : Int) (styAt Ss i)
      refine ⟨(layY_bd hC hm f _ _ _ ?_).1, Nat.le_trans (layY_bd hC hm f _ _ _ ?_).2 ?_⟩
      · split <;> split <;> omega
      · split <;> split <;> omega
      · split <;> omega
    · exact ⟨h, by dsimp only; omega⟩
theorem viewY_bd {C : Nat} {s : ByteArray} {Ss : List Sty} {cur : Int} {pr mo : ByteArray} (hC : C ≤ 200) (hs : s.size ≤ 700) (hp : pr.size ≤ 100) (hm : mo.size ≤ 100) : (viewY C s Ss cur pr mo).2 ≤ (viewY C s Ss cur pr mo).1.length ∧ (viewY C s Ss cur pr mo).1.length ≤ 1000000 := by
  unfold viewY
  dsimp only
  have h0 := promY_len C pr pr.size 0 []
  have h := layY_bd (s := s) (Ss := Ss) (at0 := plc s (fixK s cur)) hC hm s.size 0 (promY C pr pr.size 0 []) 0 (Nat.zero_le _)
  simp only [List.length_nil] at h0
  refine ⟨?_, by omega⟩
  split
  · exact Nat.le_refl _
  · exact h.1
theorem OwnC.keepK {w W : World} {B p : Nat} {g n c : Nat} {L : List Cl} (h : OwnC w B (.slice (some ⟨g, 0, none⟩) n c) L) (hk : KeepC p w W) (hg : g < p) : OwnC W B (.slice (some ⟨g, 0, none⟩) n c) L := by
  refine ⟨h.1, ?_⟩
  rcases h.2 with ⟨e, h0⟩ | ⟨g', cap, cur, e, hb, hh, q⟩
  · cases e
  · injection e with e e2 e3
    injection e with e
    injection e with e
    subst e
    exact .inr ⟨g, cap, cur, by rw [e2, e3], hb, (hk.block g (Array.getElem?_eq_some_iff.1 hh).1 (by omega) (fun hlt => absurd hlt (by omega))).trans hh, q⟩
theorem OwnC.ltB {w : World} {B : Nat} {g n c : Nat} {L : List Cl} (h : OwnC w B (.slice (some ⟨g, 0, none⟩) n c) L) : g < w.heap.size ∧ B ≤ g := by
  rcases h.2 with ⟨e, h0⟩ | ⟨g', cap, cur, e, hb, hh, q⟩
  · cases e
  · injection e with e e2 e3
    injection e with e
    injection e with e
    subst e
    exact ⟨(Array.getElem?_eq_some_iff.1 hh).1, hb⟩
theorem sty_low {w : World} {A : Option Addr} {Ss : List Sty} (h : StsAt w A Ss) (hn : Ss = [] → A = none) : StsLow A w.heap.size := by
  intro b o e
  cases Ss with
  | nil => rw [hn rfl] at e; cases e
  | cons x l =>
    obtain ⟨b', o', e', hb, -⟩ := h 0 x rfl
    rw [e] at e'
    injection e' with e'
    injection e' with e1 e2
    subst e1
    exact hb
theorem StsLow.up {A : Option Addr} {p q : Nat} (h : StsLow A p) (hq : p ≤ q) : StsLow A q := fun b o e => Nat.lt_of_lt_of_le (h b o e) hq
theorem own_far {W V : World} {B g5 g n c : Nat} {L : List Cl} (h : OwnC W B (.slice (some ⟨g5, 0, none⟩) n c) L) (hg : W.grownBy V (some g)) (hne : ¬ g5 = g) : OwnC V B (.slice (some ⟨g5, 0, none⟩) n c) L := by
  refine ⟨h.1, ?_⟩
  rcases h.2 with ⟨e, h0⟩ | ⟨g', cap, cur, e, hb, hh, q⟩
  · cases e
  · injection e with e e2 e3
    injection e with e
    injection e with e
    subst e
    exact .inr ⟨g5, cap, cur, by rw [e2, e3], hb, (hg.block g5 (Array.getElem?_eq_some_iff.1 hh).1 (fun e => hne (Option.some.inj e))).trans hh, q⟩
set_option maxHeartbeats 4000000 in
set_option maxRecDepth 100000 in
theorem frame_any (R C : Nat) (s : ByteArray) (A : Option Addr) (n cap : Nat) (cur : Int) (pr mo : ByteArray) (Ss : List Sty) (w : World) (hE : EnvL w) (hBT : BTab w) (hA : StsAt w A Ss) (hA0 : StsLow A w.heap.size) (hn : Ss.length = n) (hc : n ≤ cap) (hc2 : cap ≤ maxLen)
    (hR : 2 ≤ R) (hR2 : R ≤ 100) (hC : 8 ≤ C) (hC2 : C ≤ 200) (hs : s.size ≤ 700) (hpr : pr.size ≤ 100) (hmo : mo.size ≤ 100) (hg0 : LowG w.heap.size) :
    Calls Tryd.prog 7 #[.agg #[.string s, .slice A n cap, .int .i64 cur, .string pr, .string mo], .int .i64 R, .int .i64 C] w fun e w' => ∃ v', e = .returned (.tuple #[v', .int .i64 0]) ∧ FrOwn w' w.heap.size v' (frameY R C s Ss cur pr mo) ∧ Below w.heap.size w w' := by
  have hmay : mayB R C = true := by simp [mayB]; omega
  have HNF := hide (newF_ok hmay)
  obtain ⟨hs1, hs2⟩ := size_small hR hR2 hC hC2
  obtain ⟨N, hN⟩ : ∃ n, R * C = n := ⟨_, rfl⟩
  rw [hN] at hs1 hs2 HNF
  have hwr : IntKind.i64.wrap ((R : Int) * (C : Int)) = (N : Int) := by
    rw [show (R : Int) * (C : Int) = (N : Int) by rw [← hN]; push_cast; rfl]
    simp [IntKind.wrap_i64]; omega
  have hb0 : Below w.heap.size w (w.alloc (.cells (vwL s A n cap cur pr mo).toArray 24)) := (Below.refl _ _).alloc (Nat.le_refl _) _
  obtain ⟨W0, hW0⟩ : ∃ W, w.alloc (.cells (vwL s A n cap cur pr mo).toArray 24) = W := ⟨_, rfl⟩
  have hsz0 : W0.heap.size = w.heap.size + 1 := by rw [← hW0]; simp
  have HV0 := hide (show Blk W0 w.heap.size 24 (vwL s A n cap cur pr mo) by rw [← hW0]; exact Blk.new _ _ _)
  rw [hW0] at hb0
  have hb1 : Below W0.heap.size W0 (W0.alloc (.cells (frCells 0 0 (.slice none 0 0) 0 0).toArray 31)) := (Below.refl _ _).alloc (Nat.le_refl _) _
  obtain ⟨W1, hW1⟩ : ∃ W, W0.alloc (.cells (frCells 0 0 (.slice none 0 0) 0 0).toArray 31) = W := ⟨_, rfl⟩
  have hsz1 : W1.heap.size = w.heap.size + 1 + 1 := by rw [← hW1]; simp [hsz0]
  have HF1 := hide (show Blk W1 (w.heap.size + 1) 31 (frCells 0 0 (.slice none 0 0) 0 0) by rw [← hW1, ← hsz0]; exact Blk.new _ _ _)
  rw [hW1] at hb1
  have HV1 := hide (HV0.out.below hb1)
  have HB1 := hide (hb0.trans (hb1.mono hb0.size))
  have HE1 := hide ((hE.below hb0).below hb1)
  have HBT1 := hide ((hBT.below hb0).below hb1)
  have HA1 := hide ((hA.below hb0).below hb1)
  have HAL := hide hA0
  have HNS := hide hn
  have HG := hide hg0
  have HFY := hide (show frameY R C s Ss cur pr mo = ⟨R, C, cpY (viewY C s Ss cur pr mo).1 (((viewY C s Ss cur pr mo).2 / C + 1 - R) * C) N N, ((viewY C s Ss cur pr mo).2 / C - ((viewY C s Ss cur pr mo).2 / C + 1 - R) : Nat), ((viewY C s Ss cur pr mo).2 % C : Nat)⟩ by unfold frameY; rw [hN])
  clear hE hBT hA hA0 hn hg0 hb0 hb1 hsz0 HV0 hmay hN
  go_enter Tryd.func7, Tryd.ntmps7
  go_wp2_with fail
  rw [show w.alloc (.cells #[.string s, .slice A n cap, .int .i64 cur, .string pr, .string mo] 24) = W0 from hW0]
  rw [show W0.alloc (.cells #[.int .i64 0, .int .i64 0, .slice none 0 0, .int .i64 0, .int .i64 0] 31) = W1 from hW1]
  obtain ⟨z, hz⟩ : ∃ q, w.heap.size = q := ⟨_, rfl⟩
  obtain ⟨z1, hz1⟩ : ∃ q, z + 1 = q := ⟨_, rfl⟩
  rw [hz, hz1]
  rw [hz] at HV1 HF1 HAL HG hsz1
  rw [hz1] at HF1 hsz1
  clear hW0 hW1
  refine (new_frame R C _ HBT1.out).mono ?_; rintro e w1 ⟨v1, rfl, hf1, hb2⟩
  rw [HNF.out.1] at hf1
  rw [HNF.out.2]
  obtain ⟨g, gc, rfl, hgc, how, hgB⟩ := hf1.open (n := N) (by simp) (by omega)
  have hgl := how.ltB
  have HB2 := hide (HB1.out.trans (hb2.mono HB1.out.size))
  have HV2 := hide (HV1.out.below hb2)
  have HF2 := hide (HF1.out.below hb2)
  have HE2 := hide (HE1.out.below hb2)
  have HA2 := hide (HA1.out.below hb2)
  have HOW := hide how
  have hszb := hb2.size
  clear hf1 how hb2 HB1 HV1 HF1 HE1 HBT1 HA1
  obtain ⟨f0, f1, f2, f3, f4, ff⟩ := fr_reads HF2.out
  obtain ⟨v0, v1, v2, v3, v4⟩ := vw_reads HV2.out
  have hzz : ¬ z = z1 := by omega
  have hzz' : ¬ z1 = z := by omega
  have hzl : z1 < w1.heap.size := by omega
  have hzl2 : z < w1.heap.size := by omega
  have HS1 := hide (show frSet w1 z1 R C (.slice (some ⟨g, 0, none⟩) N gc) 0 0 = frSet w1 z1 R C (.slice (some ⟨g, 0, none⟩) N gc) 0 0 from rfl)
  have HF3 := hide (fr_put HF2.out R C (.slice (some ⟨g, 0, none⟩) N gc) 0 0)
  have hk3 : KeepC z1 w1 (frSet w1 z1 R C (.slice (some ⟨g, 0, none⟩) N gc) 0 0) := by
    have hb := fr_below (Below.refl z1 w1) (Nat.le_refl z1) R C (.slice (some ⟨g, 0, none⟩) N gc) 0 0
    refine ⟨hb.os, hb.tape, hb.output, hb.size, fun b hlt hne _ => ?_⟩
    unfold frSet
    exact (Below.heap_setCell _ _ _ _ hne).trans ((Below.heap_setCell _ _ _ _ hne).trans ((Below.heap_setCell _ _ _ _ hne).trans ((Below.heap_setCell _ _ _ _ hne).trans (Below.heap_setCell _ _ _ _ hne))))
  have hpz : z1 < w1.heap.size := hzl
  have hz1' : z < z1 := by omega
  have HG3 := hide (show LowG z1 from ⟨Nat.lt_trans HG.out.1 hz1', Nat.lt_trans HG.out.2.1 hz1', Nat.lt_trans HG.out.2.2.1 hz1', Nat.lt_trans HG.out.2.2.2.1 hz1', Nat.lt_trans HG.out.2.2.2.2 hz1'⟩)
  have HE3 := hide (HE2.out.keep hk3 HG3.out)
  have HA3 := hide (HA2.out.keep hk3 (HAL.out.up (by omega)))
  have HOW3 := hide (fr_low (z := z1) HOW.out (by omega) R C (.slice (some ⟨g, 0, none⟩) N gc) 0 0)
  have HB3 := hide (fr_below HB2.out (show w.heap.size ≤ z1 by omega) R C (.slice (some ⟨g, 0, none⟩) N gc) 0 0)
  have hs3 : (frSet w1 z1 R C (.slice (some ⟨g, 0, none⟩) N gc) 0 0).heap.size = w1.heap.size := by unfold frSet World.setCell; simp
  go_wp2_with fail
  rw [show ((((((w1.setCell ⟨z1, 0, none⟩ (.int .i64 R)).setCell ⟨z1, 1, none⟩ (.int .i64 C)).setCell ⟨z1, 2, none⟩ (.slice (some ⟨g, 0, none⟩) N gc)).setCell ⟨z1, 3, none⟩ (.int .i64 0)).setCell ⟨z1, 4, none⟩ (.int .i64 0))) = frSet w1 z1 R C (.slice (some ⟨g, 0, none⟩) N gc) 0 0 from rfl]
  obtain ⟨W3, hW3⟩ : ∃ q, frSet w1 z1 R C (.slice (some ⟨g, 0, none⟩) N gc) 0 0 = q := ⟨_, rfl⟩
  rw [hW3] at HF3 HE3 HA3 HOW3 HB3 hs3 ⊢
  have hb4 : Below W3.heap.size W3 (W3.alloc (.cells [.int .i64 C, .slice none 0 0].toArray 46)) := (Below.refl _ _).alloc (Nat.le_refl _) _
  obtain ⟨p, hp⟩ : ∃ q, w1.heap.size = q := ⟨_, rfl⟩
  rw [hp] at hs3 hgl hzl hzl2 hpz ⊢
  have HS4 := hide (show Sh (W3.alloc (.cells [.int .i64 C, .slice none 0 0].toArray 46)) p C [] from ⟨.slice none 0 0, by rw [← hs3]; exact Blk.new _ _ _, ⟨rfl, .inl ⟨rfl, rfl⟩⟩⟩)
  have HF4 := hide (HF3.out.below hb4)
  have HE4 := hide (HE3.out.below hb4)
  have HA4 := hide (HA3.out.below hb4)
  have HOW4 := hide (HOW3.out.below hb4)
  have HB4 := hide (HB3.out.trans (hb4.mono HB3.out.size))
  have hs4 : (W3.alloc (.cells [.int .i64 C, .slice none 0 0].toArray 46)).heap.size = p + 1 := by simp [hs3]
  have HG4 := hide (show LowG p from ⟨Nat.lt_trans HG3.out.1 hpz, Nat.lt_trans HG3.out.2.1 hpz, Nat.lt_trans HG3.out.2.2.1 hpz, Nat.lt_trans HG3.out.2.2.2.1 hpz, Nat.lt_trans HG3.out.2.2.2.2 hpz⟩)
  refine (lay_any p C s A n cap cur pr mo Ss _ HS4.out HE4.out HA4.out (HAL.out.up (by omega)) HNS.out hc hc2 HG4.out (by omega) hC2 hs hpr hmo).mono ?_; rintro e w5 ⟨rfl, hs5, hk5⟩
  have HVB := viewY_bd (s := s) (Ss := Ss) (cur := cur) (pr := pr) hC2 hs hpr hmo
  obtain ⟨⟨VL, vc⟩, hv⟩ : ∃ x, viewY C s Ss cur pr mo = x := ⟨_, rfl⟩
  rw [hv] at hs5 HVB HFY
  rw [hv]
  dsimp only at HVB HFY hs5
  have HF5 := hide (hk5.blk HF4.out (by omega) (by decide))
  have HOW5 := hide (HOW4.out.keepK hk5 hgl.1)
  have HB5 := hide (HB4.out.trans ((hk5.below (by omega)).mono (by omega)))
  obtain ⟨A5, m5, c5, hm5, hmc5, hcm5, r0, r1, rf5, hbk5, how5⟩ := hs5.reads
  have HSH := hide (show Blk w5 p 46 [.int .i64 C, .slice A5 m5 c5] ∧ OwnC w5 (p + 1) (.slice A5 m5 c5) VL from ⟨hbk5, how5⟩)
  obtain ⟨q, hq⟩ : ∃ q, vc / C = q := ⟨_, rfl⟩
  obtain ⟨mm, hmm⟩ : ∃ q, vc % C = q := ⟨_, rfl⟩
  have hqi : (vc : Int) / (C : Int) = (q : Int) := by rw [div_int, hq]
  have hmi : (vc : Int) % (C : Int) = (mm : Int) := by rw [mod_int, hmm]
  have hC0 : ¬ (C : Int) = 0 := by omega
  have hqb : q ≤ vc := by rw [← hq]; exact Nat.div_le_self _ _
  have hqc : q * C ≤ vc := by rw [← hq]; exact Nat.div_mul_le_self _ _
  obtain ⟨d, hd⟩ : ∃ d : Int, (q : Int) - (R : Int) = d := ⟨_, rfl⟩
  have hqb2 : q ≤ 1000000 := by omega
  have hw0 : IntKind.i64.wrap (q : Int) = (q : Int) := Go.wrap_small _ (by omega) (by omega)
  have hw1 : IntKind.i64.wrap ((q : Int) - (R : Int)) = d := by rw [← hd]; simp [IntKind.wrap_i64]; omega
  obtain ⟨d1, hd1⟩ : ∃ d1 : Int, d + 1 = d1 := ⟨_, rfl⟩
  have hw2 : IntKind.i64.wrap (d + 1) = d1 := by rw [← hd1]; simp [IntKind.wrap_i64]; omega
  obtain ⟨t, ht⟩ : ∃ t, q + 1 - R = t := ⟨_, rfl⟩
  have hmx : max d1 0 = (t : Int) := by omega
  have htq : t * C ≤ q * C := Nat.mul_le_mul_right _ (by omega)
  obtain ⟨tc, htc⟩ : ∃ x, t * C = x := ⟨_, rfl⟩
  have hw3 : IntKind.i64.wrap ((t : Int) * (C : Int)) = (tc : Int) := by
    rw [show (t : Int) * (C : Int) = (tc : Int) by rw [← htc]; push_cast; rfl, Go.wrap_small _ (by omega) (by omega)]
  have htb : tc ≤ 1000000 := by omega
  obtain ⟨rw9, hrw⟩ : ∃ x, q - t = x := ⟨_, rfl⟩
  have hw4 : IntKind.i64.wrap ((q : Int) - (t : Int)) = (rw9 : Int) := by rw [Go.wrap_small _ (by omega) (by omega)]; omega
  rw [hq, hmm, ht, htc, hrw] at HFY
  have hpg : ¬ p = g := by omega
  have hpg' : ¬ g = p := by omega
  have hzg : ¬ z1 = g := by omega
  have hzg' : ¬ g = z1 := by omega
  have hzp : ¬ z1 = p := by omega
  have hzp' : ¬ p = z1 := by omega
  have hm5b : m5 ≤ 1000000 := by omega
  have HM5 := hide hm5
  have hzw : w.heap.size ≤ z1 := by omega
  have hwg : w.heap.size ≤ g := by omega
  rw [← cpY_0 VL tc N] at HOW5
  clear hs5 hk5 hbk5 how5 r0 r1 rf5 hm5 hv hd hd1 hq hmm ht htc hqc htq hrw HF4 HE4 HA4 HOW4 HB4 HS4 HF3 HE3 HA3 HOW3 HB3 HG3 HG4 hb4 hk3 hW3 HVB HF2 HE2 HA2 HB2 HV2 HOW f0 f1 f2 f3 f4 ff v0 v1 v2 v3 v4 hs4 hs3
  go_wp2_with fail
  go_loopw [39] (fun iv wr => ∃ i : Nat, iv = .int .i64 i ∧ i ≤ N ∧ Hid (OwnC wr W1.heap.size (.slice (some ⟨g, 0, none⟩) N gc) (cpY VL tc N i)) ∧ Hid (Blk wr z1 31 (frCells R C (.slice (some ⟨g, 0, none⟩) N gc) 0 0)) ∧ Hid (Blk wr p 46 [.int .i64 C, .slice A5 m5 c5] ∧ OwnC wr (p + 1) (.slice A5 m5 c5) VL) ∧ Hid (Below w.heap.size w wr)) (fun iv _ => N - (intOf iv).toNat)
  case atStart => exact ⟨0, rfl, by omega, HOW5, HF5, HSH, HB5⟩
  case round =>
    clear HOW5 HF5 HSH HB5
    obtain ⟨i, rfl, hi, HOW, HF, HSH, HB⟩ := hrel
    obtain ⟨f0, f1, f2, f3, f4, ff⟩ := fr_reads HF.out
    have p0 := HSH.out.1.cell (i := 0) rfl
    have p1 := HSH.out.1.cell (i := 1) rfl
    by_cases hlt : i < N
    · obtain ⟨k, hk⟩ : ∃ k, tc + i = k := ⟨_, rfl⟩
      have hwk : IntKind.i64.wrap ((tc : Int) + (i : Int)) = (k : Int) := by rw [Go.wrap_small _ (by omega) (by omega)]; omega
      have hk0 : (0 : Int) ≤ (k : Int) := by omega
      have hi0 : (0 : Int) ≤ (i : Int) := by omega
      have hi1 : (i : Int) < (N : Int) := by omega
      by_cases hkm : k < m5
      · obtain ⟨X, hX⟩ : ∃ y, (cpY VL tc N i)[i]? = some y := ⟨_, List.getElem?_eq_getElem (by rw [cpY_len]; exact hlt)⟩
        obtain ⟨x0, x1, x2, x3, x4, x5⟩ := HOW.out.cls.get hX
        rw [Nat.zero_add] at x0 x1 x2 x3 x4 x5
        have xf := fun i => HOW.out.frozen i
        obtain ⟨g5, c9, e9, -, hg5⟩ := HSH.out.2.formN (by rw [← HM5.out]; omega)
        injection e9 with e9 e9a e9b
        subst e9
        have hk2 : k < VL.length := by rw [← HM5.out]; exact hkm
        clear e9a e9b
        obtain ⟨Y, hY⟩ : ∃ y, VL[k]? = some y := ⟨_, List.getElem?_eq_getElem (by rw [← HM5.out]; exact hkm)⟩
        obtain ⟨y0, y1, y2, y3, y4, y5⟩ := HSH.out.2.cls.get hY
        rw [Nat.zero_add] at y0 y1 y2 y3 y4 y5
        have h5g : ¬ g5 = g := by omega
        have h5g' : ¬ g = g5 := by omega
        have hk1 : (k : Int) < (m5 : Int) := by omega
        have HY := hide (show VL[tc + i]? = some Y by rw [hk]; exact hY)
        obtain ⟨yr, yw, yf, yb, yu, yv⟩ := Y
        dsimp only at y0 y1 y2 y3 y4 y5
        clear hX hY hk
        go_wp2_with fail
        go_region
        all_goals (
          have hgr : wr.grownBy ((((((wr.setCell ⟨g, i * 6, none⟩ (.int .i32 yr)).setCell ⟨g, i * 6 + 1, none⟩ (.int .i64 yw)).setCell ⟨g, i * 6 + 2, none⟩ (.int .i64 yf)).setCell ⟨g, i * 6 + 3, none⟩ (.bool yb)).setCell ⟨g, i * 6 + 4, none⟩ (.bool yu)).setCell ⟨g, i * 6 + 5, none⟩ (.bool yv)) (some g) := grown6 wr g (i * 6) (i * 6 + 1) (i * 6 + 2) (i * 6 + 3) (i * 6 + 4) (i * 6 + 5) (.int .i32 yr) (.int .i64 yw) (.int .i64 yf) (.bool yb) (.bool yu) (.bool yv)
          have ho6 : OwnC ((((((wr.setCell ⟨g, i * 6, none⟩ (.int .i32 yr)).setCell ⟨g, i * 6 + 1, none⟩ (.int .i64 yw)).setCell ⟨g, i * 6 + 2, none⟩ (.int .i64 yf)).setCell ⟨g, i * 6 + 3, none⟩ (.bool yb)).setCell ⟨g, i * 6 + 4, none⟩ (.bool yu)).setCell ⟨g, i * 6 + 5, none⟩ (.bool yv)) W1.heap.size (.slice (some ⟨g, 0, none⟩) N gc) ((cpY VL tc N i).set i ⟨yr, yw, yf, yb, yu, yv⟩) := own_set6 HOW.out (cpY_len VL tc N i) hlt ⟨yr, yw, yf, yb, yu, yv⟩
          obtain ⟨X, hX⟩ : ∃ q, ((((((wr.setCell ⟨g, i * 6, none⟩ (.int .i32 yr)).setCell ⟨g, i * 6 + 1, none⟩ (.int .i64 yw)).setCell ⟨g, i * 6 + 2, none⟩ (.int .i64 yf)).setCell ⟨g, i * 6 + 3, none⟩ (.bool yb)).setCell ⟨g, i * 6 + 4, none⟩ (.bool yu)).setCell ⟨g, i * 6 + 5, none⟩ (.bool yv)) = q := ⟨_, rfl⟩
          rw [hX] at hgr ho6
          rw [hX]
          clear hX
          have HOX := hide (ho6.below (drew_b X))
          have HFX := hide ((HF.out.grown hgr hzg).below (drew_b X))
          have HSX := hide (show Blk X.drew p 46 [.int .i64 C, .slice (some ⟨g5, 0, none⟩) m5 c5] ∧ OwnC X.drew (p + 1) (.slice (some ⟨g5, 0, none⟩) m5 c5) VL from ⟨(HSH.out.1.grown hgr hpg).below (drew_b X), (own_far HSH.out.2 hgr h5g).below (drew_b X)⟩)
          have HBX := hide (HB.out.grown hgr HB.out.size (fun k e => by cases e; omega)).drew
          rw [cpY_step hlt HY.out] at HOX
          clear hgr ho6 HOW HF HSH HB HY x0 x1 x2 x3 x4 x5 xf y0 y1 y2 y3 y4 y5 f0 f1 f2 f3 f4 ff p0 p1
          go_wp2
          go_roundw
          case rel => exact ⟨i + 1, by go_num, by omega, HOX, HFX, HSX, HBX⟩
          case measure => simp [intOf]; omega)
      · have hk1 : ¬ k < m5 := hkm
        have hk2 : ¬ (k : Int) < (m5 : Int) := by omega
        have HKE := hide (show VL.length ≤ tc + i by rw [← HM5.out]; omega)
        clear hk
        go_wp2
        go_roundw
        case rel => exact ⟨i + 1, by go_num, by omega, hide (by rw [← cpY_skip HKE.out]; exact HOW.out), HF, HSH, HB⟩
        case measure => simp [intOf]; omega
    · obtain rfl : i = N := by omega
      clear HSH
      have hfn : ∀ X : World, Blk X z1 31 (frCells R C (.slice (some ⟨g, 0, none⟩) i gc) rw9 mm) → OwnC X W1.heap.size (.slice (some ⟨g, 0, none⟩) i gc) (cpY VL tc i i) → Below w.heap.size w X →
          (Blk (frSet X z1 R C (.slice (some ⟨g, 0, none⟩) i gc) rw9 mm).drew z1 31 (frCells R C (.slice (some ⟨g, 0, none⟩) i gc) rw9 mm) ∧ FrOwn (frSet X z1 R C (.slice (some ⟨g, 0, none⟩) i gc) rw9 mm).drew w.heap.size (.agg (frCells R C (.slice (some ⟨g, 0, none⟩) i gc) rw9 mm).toArray) (frameY R C s Ss cur pr mo) ∧ Below w.heap.size w (frSet X z1 R C (.slice (some ⟨g, 0, none⟩) i gc) rw9 mm).drew) := fun X h1 h2 h3 =>
        ⟨(fr_put h1 R C (.slice (some ⟨g, 0, none⟩) i gc) rw9 mm).below (drew_b _), by
          rw [HFY.out]
          exact (fr_own (cpY_len _ _ _ _) hgc ((fr_low h2 (by omega) R C (.slice (some ⟨g, 0, none⟩) i gc) rw9 mm).below (drew_b _))).mono (by omega), (fr_below h3 (by omega) R C (.slice (some ⟨g, 0, none⟩) i gc) rw9 mm).drew⟩
      have A1 := hfn ((wr.setCell ⟨z1, 3, none⟩ (.int .i64 rw9)).setCell ⟨z1, 4, none⟩ (.int .i64 mm)) ((HF.out.set 3 (.int .i64 rw9)).set 4 (.int .i64 mm)) ((HOW.out.off (p := ⟨z1, 3, none⟩) hzg _).off (p := ⟨z1, 4, none⟩) hzg _) ((HB.out.setCell (p := ⟨z1, 3, none⟩) hzw _).setCell (p := ⟨z1, 4, none⟩) hzw _)
      have A2 := hfn ((wr.setCell ⟨z1, 4, none⟩ (.int .i64 mm)).setCell ⟨z1, 3, none⟩ (.int .i64 rw9)) ((HF.out.set 4 (.int .i64 mm)).set 3 (.int .i64 rw9)) ((HOW.out.off (p := ⟨z1, 4, none⟩) hzg _).off (p := ⟨z1, 3, none⟩) hzg _) ((HB.out.setCell (p := ⟨z1, 4, none⟩) hzw _).setCell (p := ⟨z1, 3, none⟩) hzw _)
      unfold frSet at A1 A2
      have HA1 := hide A1
      have HA2 := hide A2
      clear hfn A1 A2
      go_wp2_with fail
      go_region
      all_goals go_wp2
      all_goals first
        | exact bodyPost_ret (results_cell_tmp rfl _ _ z1 31 (frCells R C (.slice (some ⟨g, 0, none⟩) i gc) rw9 mm).toArray (0, 0) _ (.int .i64 0) rfl rfl HA1.out.1 Tryd.underlying31 rfl (by kernel_rfl)) rfl ⟨_, rfl, HA1.out.2.1, HA1.out.2.2⟩
        | exact bodyPost_ret (results_cell_tmp rfl _ _ z1 31 (frCells R C (.slice (some ⟨g, 0, none⟩) i gc) rw9 mm).toArray (0, 0) _ (.int .i64 0) rfl rfl HA2.out.1 Tryd.underlying31 rfl (by kernel_rfl)) rfl ⟨_, rfl, HA2.out.2.1, HA2.out.2.2⟩
end Go.Proofs.YtmpajkfbiocmiaaDoor
namespace Go.Proofs.YtmpajkfbiocmiaaDoor

/-- A fact that arithmetic is not to look into. -/
structure Kp (p : Prop) : Prop where
  out : p
theorem row_kp {l : List Cl} (h : rowB l = true) (j : Nat) (c : Cl) (hj : l[j]? = some c) : ((0 : Int) ≤ c.w ∧ c.w ≤ 2) ∧ Kp (c.w = 2 → ∃ d, l[j + 1]? = some d ∧ d.w = 0) ∧ Kp (c.w = 0 → 1 ≤ j ∧ ∃ d, l[j - 1]? = some d ∧ d.w = 2) :=
  ⟨(row_facts h j c hj).1, ⟨(row_facts h j c hj).2.1⟩, ⟨(row_facts h j c hj).2.2⟩⟩
theorem row_iff (l : List Cl) : rowB l = true ↔ ∀ j c, l[j]? = some c → cellB (if j = 0 then none else l[j - 1]?) c l[j + 1]? = true := by
  rw [row_ok _ none (fun d h => by cases h), okFrom_iff]
theorem cells_32 : cells 32 = 1 := by decide
theorem cell_blank (p n : Option Cl) : cellB p blankC n = true := by rw [cell_1 rfl]; unfold blankC; simp [cells_32, styC]
theorem sty_half (c : Cl) : styE (halfC c) c = true := by unfold styE halfC; simp
/-- A row with a rune put in is one. -/
theorem put_row {l : List Cl} (h : rowB l = true) {i n : Nat} (hn : n = 1 ∨ n = 2) (hi : i + n ≤ l.length) {c : Cl} (hc : c.w = n) (hr : cells c.r = n) (hs : styC c = true) : rowB (putL l i n c) = true := by
  rw [row_iff]
  intro j d hj
  have at' := putL_at h hn hi c
  rw [at'] at hj
  rw [at', at']
  have hx := List.getElem?_eq_getElem (show i < l.length by omega)
  have hy := List.getElem?_eq_getElem (show i + n - 1 < l.length by omega)
  obtain ⟨x, ex⟩ : ∃ x, l[i] = x := ⟨_, rfl⟩
  obtain ⟨y, ey⟩ : ∃ y, l[i + n - 1] = y := ⟨_, rfl⟩
  rw [ex] at hx
  rw [ey] at hy
  have gx : l.getD i blankC = x := getD_some hx
  have gy : l.getD (i + n - 1) blankC = y := getD_some hy
  obtain ⟨-, x2, x0⟩ := row_kp h i x hx
  obtain ⟨-, y2, y0⟩ := row_kp h (i + n - 1) y hy
  unfold putAt at hj
  rw [gx, gy] at hj
  by_cases e1 : j = i
  · rw [if_pos e1] at hj
    injection hj with hj
    subst hj
    subst e1
    rcases hn with rfl | rfl
    · rw [cell_1 (by rw [hc]; rfl), hs, Bool.and_true, decide_eq_true_eq]; exact_mod_cast hr
    · rw [cell_2 (by rw [hc]; rfl), hs, Bool.and_true, Bool.and_eq_true, decide_eq_true_eq]
      refine ⟨by exact_mod_cast hr, ?_⟩
      unfold putAt
      rw [if_neg (by omega), if_pos ⟨rfl, rfl⟩]
      rfl
  rw [if_neg e1] at hj
  by_cases e2 : n = 2 ∧ j = i + 1
  · rw [if_pos e2] at hj
    injection hj with hj
    subst hj
    obtain ⟨rfl, rfl⟩ := e2
    rw [cell_0 rfl, if_neg (by omega), Nat.add_sub_cancel]
    unfold putAt
    rw [if_pos rfl, sty_eq (sty_half c), hs, Option.any_some, sty_half, hc]
    rfl
  rw [if_neg e2] at hj
  by_cases e3 : (j + 1 = i ∧ x.w = 0) ∨ (j = i + n ∧ y.w = 2)
  · rw [if_pos e3] at hj
    injection hj with hj
    subst hj
    exact cell_blank _ _
  rw [if_neg e3] at hj
  have hcell := (row_iff l).1 h j d hj
  obtain ⟨⟨b1, b2⟩, f2, f0⟩ := row_kp h j d hj
  by_cases w1 : d.w = 1
  · rw [cell_1 w1] at hcell ⊢; exact hcell
  by_cases w2 : d.w = 2
  · rw [cell_2 w2] at hcell ⊢
    obtain ⟨e, he, he0⟩ := f2.out w2
    have : putAt l i n c (j + 1) = l[j + 1]? := by
      unfold putAt
      rw [gx, gy, if_neg, if_neg, if_neg]
      · rintro (⟨a, b⟩ | ⟨a, b⟩)
        · obtain ⟨_, q, hq, hq2⟩ := x0.out b
          rw [show i - 1 = j + 1 by omega, he] at hq
          injection hq with hq
          subst hq
          omega
        · omega
      · omega
      · intro a
        rw [a, hx] at he
        injection he with he
        subst he
        exact e3 (.inl ⟨a, he0⟩)
    rw [this]
    exact hcell
  · have w0 : d.w = 0 := by omega
    rw [cell_0 w0] at hcell ⊢
    obtain ⟨hj1, e, he, he2⟩ := f0.out w0
    have : putAt l i n c (j - 1) = l[j - 1]? := by
      unfold putAt
      rw [gx, gy, if_neg, if_neg, if_neg]
      · rintro (⟨a, b⟩ | ⟨a, b⟩)
        · omega
        · obtain ⟨q, hq, hq0⟩ := y2.out b
          rw [show i + n - 1 + 1 = j - 1 by omega, he] at hq
          injection hq with hq
          subst hq
          omega
      · rintro ⟨a, b⟩
        rw [show j - 1 = i + n - 1 by omega, hy] at he
        injection he with he
        subst he
        exact e3 (.inr ⟨by omega, he2⟩)
      · intro a
        rw [a, hx] at he
        injection he with he
        subst he
        rcases hn with rfl | rfl
        · rw [show i + 1 - 1 = i by omega, hx] at hy
          injection hy with hy
          subst hy
          exact e3 (.inr ⟨by omega, he2⟩)
        · exact e2 ⟨rfl, by omega⟩
    rw [if_neg (by omega)] at hcell ⊢
    rw [this]
    exact hcell
theorem blank_row : ∀ n, rowB (List.replicate n blankC) = true
  | n => by
    rw [row_iff]
    intro j c hj
    rw [List.getElem?_replicate] at hj
    split at hj
    · injection hj with hj; subst hj; exact cell_blank _ _
    · cases hj
/-- A row in another width is one. -/
theorem rowR_row {l : List Cl} (h : rowB l = true) {n : Nat} (hn : 0 < n) : rowB (rowR l n) = true := by
  rw [row_iff]
  intro j d hj
  rw [rowR_at l hn] at hj
  rw [rowR_at l hn, rowR_at l hn]
  split at hj
  case isFalse => cases hj
  case isTrue hjn =>
    injection hj with hj
    by_cases e : j = n - 1 ∧ (l.getD j blankC).w = 2
    · rw [if_pos e] at hj
      subst hj
      exact cell_blank _ _
    rw [if_neg e] at hj
    cases hc : l[j]? with
    | none =>
      rw [List.getD_eq_getElem?_getD, hc] at hj
      subst hj
      exact cell_blank _ _
    | some c =>
      rw [getD_some hc] at hj e
      subst hj
      have hcell := (row_iff l).1 h j c hc
      obtain ⟨⟨b1, b2⟩, f2, f0⟩ := row_kp h j c hc
      by_cases w1 : c.w = 1
      · rw [cell_1 w1] at hcell ⊢; exact hcell
      by_cases w2 : c.w = 2
      · rw [cell_2 w2] at hcell ⊢
        obtain ⟨q, hq, hq0⟩ := f2.out w2
        rw [hq] at hcell
        rw [if_pos (by omega), getD_some hq, if_neg (by omega)]
        exact hcell
      · have w0 : c.w = 0 := by omega
        rw [cell_0 w0] at hcell ⊢
        obtain ⟨hj1, q, hq, hq2⟩ := f0.out w0
        rw [if_neg (by omega), hq] at hcell
        rw [if_neg (by omega), if_pos (by omega), getD_some hq, if_neg (by omega)]
        exact hcell
theorem valid_rows {L : List Cl} {R C : Nat} : validL L R C = true ↔ ∀ k, k < R → rowB (rowL L C k) = true := by
  unfold validL
  rw [List.all_eq_true]
  exact ⟨fun h k hk => h k (List.mem_range.2 hk), fun h k hk => h k (List.mem_range.1 hk)⟩
theorem putL_valid {L : List Cl} {R C k i n : Nat} (hL : L.length = R * C) (hv : validL L R C = true) (hk : k < R) (hn : n = 1 ∨ n = 2) (hi : i + n ≤ C) {c : Cl} (hc : c.w = n) (hr : cells c.r = n) (hs : styC c = true) : validL (putL L (k * C + i) n c) R C = true := by
  rw [put_rows hL hv hk hn hi, valid_rows]
  rw [valid_rows] at hv
  have hl := rowL_len hL hk
  intro q hq
  rw [row_replR hL hk (by rw [put_len, hl])]
  split
  · exact put_row (hv k hk) hn (by rw [hl]; exact hi) hc hr hs
  · exact hv q hq
theorem okP_facts {f : Fr} {row col : Int} {x : Cl} (h : okP f row col x = true) : ∃ n : Nat, cells x.r = n ∧ (n = 1 ∨ n = 2) ∧ styC x = true ∧ 0 ≤ row ∧ row < f.rows ∧ 0 ≤ col ∧ col + n ≤ f.cols := by
  unfold okP at h
  simp only [Bool.and_eq_true, decide_eq_true_eq] at h
  obtain ⟨⟨h0, hs⟩, h1, h2, h3, h4⟩ := h
  have hb := cells_bd x.r
  exact ⟨(cells x.r).toNat, by omega, by omega, hs, h1, h2, h3, by omega⟩
theorem putF_valid {f : Fr} (h : validF f = true) (row col : Int) (x : Cl) : validF (putF f row col x) = true := by
  unfold putF
  rw [if_pos h]
  split
  case isFalse => exact h
  case isTrue hok =>
    obtain ⟨n, hn, hn12, hs, r1, r2, c1, c2⟩ := okP_facts hok
    obtain ⟨R, C, hR, hC, h1, h2, h3, h4, hL, q1, q2, q3, q4, hv⟩ := valid_facts h
    obtain ⟨k, rfl⟩ : ∃ k : Nat, row = k := ⟨row.toNat, by omega⟩
    obtain ⟨i, rfl⟩ : ∃ i : Nat, col = i := ⟨col.toNat, by omega⟩
    rw [hR, hC, hn]
    rw [hR] at r2
    rw [hC] at c2
    have e : ((k : Int) * (C : Int) + (i : Int)).toNat = k * C + i := by
      rw [show (k : Int) * (C : Int) + (i : Int) = ((k * C + i : Nat) : Int) by push_cast; rfl]; exact Int.toNat_natCast _
    rw [e, Int.toNat_natCast]
    refine frame_of h1 h2 h3 h4 (by rw [put_len]; exact hL) ⟨q1, q2, q3, q4⟩ (putL_valid hL hv (by omega) hn12 (by omega) ?_ ?_ ?_)
    · exact hn
    · exact hn
    · exact hs
theorem resF_valid {f : Fr} {rows cols : Int} (h : resOk f rows cols = true) : validF (resF f rows cols) = true := by
  have h0 := h
  unfold resF
  rw [if_pos h]
  unfold resOk mayB at h0
  simp only [Bool.and_eq_true, decide_eq_true_eq] at h0
  obtain ⟨⟨m1, m2, m3, m4⟩, hv⟩ := h0
  obtain ⟨R, C, hR, hC, h1, h2, h3, h4, hL, q1, q2, q3, q4, hvl⟩ := valid_facts hv
  obtain ⟨R', rfl⟩ : ∃ k : Nat, rows = k := ⟨rows.toNat, by omega⟩
  obtain ⟨C', rfl⟩ : ∃ k : Nat, cols = k := ⟨cols.toNat, by omega⟩
  rw [hR, hC]
  simp only [Int.toNat_natCast]
  refine frame_of (by omega) (by omega) (by omega) (by omega) (resTo_len _ _ _ _ _ (Nat.min_le_left _ _)) ⟨by omega, by omega, by omega, by omega⟩ ?_
  rw [valid_rows]
  rw [valid_rows] at hvl
  intro q hq
  rw [resTo_row _ _ _ _ _ (Nat.min_le_left _ _) q hq]
  split
  · exact rowR_row (hvl q (by omega)) (by omega)
  · exact blank_row _
theorem newF_valid {rows cols : Int} (h : mayB rows cols = true) : validF (newF rows cols) = true := by
  have h0 := h
  unfold newF
  rw [if_pos h]
  unfold mayB at h0
  simp only [decide_eq_true_eq] at h0
  obtain ⟨R', rfl⟩ : ∃ k : Nat, rows = k := ⟨rows.toNat, by omega⟩
  obtain ⟨C', rfl⟩ : ∃ k : Nat, cols = k := ⟨cols.toNat, by omega⟩
  simp only [Int.toNat_natCast]
  refine frame_of (by omega) (by omega) (by omega) (by omega) (by simp) ⟨by omega, by omega, by omega, by omega⟩ ?_
  rw [valid_rows]
  intro q hq
  have := resTo_row [] 0 C' R' 0 (by omega) q hq
  rw [if_neg (by omega)] at this
  unfold resTo at this
  rw [this]
  exact blank_row _
/-- How many of the first i cells are unlike. -/
def diffTo (A B : List Cl) : Nat → Nat
  | 0 => 0
  | i + 1 => diffTo A B i + if A[i]? = B[i]? then 0 else 1
theorem diffTo_le (A B : List Cl) : ∀ i, diffTo A B i ≤ i
  | 0 => Nat.le_refl _
  | i + 1 => by have := diffTo_le A B i; unfold diffTo; split <;> omega
theorem diffTo_sym (A B : List Cl) : ∀ i, diffTo A B i = diffTo B A i
  | 0 => rfl
  | i + 1 => by
    unfold diffTo
    rw [diffTo_sym A B i]
    by_cases h : A[i]? = B[i]?
    · rw [if_pos h, if_pos h.symm]
    · rw [if_neg h, if_neg (fun e => h e.symm)]
theorem diffTo_self (A : List Cl) : ∀ i, diffTo A A i = 0
  | 0 => rfl
  | i + 1 => by unfold diffTo; rw [diffTo_self A i, if_pos rfl]
theorem diffTo_zero {A B : List Cl} : ∀ {i}, diffTo A B i = 0 → ∀ j, j < i → A[j]? = B[j]?
  | 0, _, j, hj => by omega
  | i + 1, h, j, hj => by
    unfold diffTo at h
    have h1 : diffTo A B i = 0 := by omega
    rcases Nat.lt_succ_iff_lt_or_eq.1 hj with a | rfl
    · exact diffTo_zero h1 j a
    · by_cases e : A[j]? = B[j]?
      · exact e
      · rw [if_neg e] at h; omega
/-- Where only the cells from a up to b are unlike, no more are. -/
theorem diffTo_span {A B : List Cl} {a b : Nat} (h : ∀ j, ¬ (a ≤ j ∧ j < b) → A[j]? = B[j]?) : ∀ i, diffTo A B i ≤ min i b - min i a
  | 0 => by simp [diffTo]
  | i + 1 => by
    have := diffTo_span h i
    unfold diffTo
    by_cases e : a ≤ i ∧ i < b
    · split <;> omega
    · rw [if_pos (h i e)]; omega
def diffOk (f g : Fr) : Bool := validF f && validF g && decide (f.rows = g.rows) && decide (f.cols = g.cols)
def diffF (f g : Fr) : Int := if diffOk f g = true then (diffTo f.cs g.cs f.cs.length : Nat) else -1
theorem put_diff {f : Fr} (h : validF f = true) {row col : Int} {x : Cl} (hok : okP f row col x = true) : diffF f (putF f row col x) ≤ cells x.r + 2 := by
  have hp := putF_valid h row col x
  unfold diffF diffOk
  rw [h, hp]
  unfold putF
  rw [if_pos h, if_pos hok]
  simp only [Bool.and_self, decide_true, Bool.true_and, if_true]
  obtain ⟨n, hn, hn12, hs, r1, r2, c1, c2⟩ := okP_facts hok
  obtain ⟨R, C, hR, hC, h1, h2, h3, h4, hL, q1, q2, q3, q4, hv⟩ := valid_facts h
  obtain ⟨k, rfl⟩ : ∃ k : Nat, row = k := ⟨row.toNat, by omega⟩
  obtain ⟨i, rfl⟩ : ∃ i : Nat, col = i := ⟨col.toNat, by omega⟩
  rw [hR] at r2
  rw [hC] at c2
  have e : ((k : Int) * (C : Int) + (i : Int)).toNat = k * C + i := by
    rw [show (k : Int) * (C : Int) + (i : Int) = ((k * C + i : Nat) : Int) by push_cast; rfl]; exact Int.toNat_natCast _
  rw [hC, hn, e, Int.toNat_natCast]
  have hsp := spot_in (R := R) (C := C) (k := k) (j := i + n - 1) (by omega) (by omega)
  have hd := diffTo_span (A := f.cs) (B := putL f.cs (k * C + i) n (inkC x)) (a := k * C + i - 1) (b := k * C + i + n + 1) (fun j hj => by
    rw [putL_at (row_whole R f.cs C hL hv) hn12 (by rw [hL]; omega)]
    unfold putAt
    rw [if_neg (by omega), if_neg (by omega), if_neg (by omega)]) f.cs.length
  have : diffTo f.cs (putL f.cs (k * C + i) n (inkC x)) f.cs.length ≤ n + 2 := by omega
  exact_mod_cast this
theorem put_spot {f : Fr} (h : validF f = true) {row col : Int} {x : Cl} (hok : okP f row col x = true) : (putF f row col x).cs[(row * f.cols + col).toNat]? = some (inkC x) := by
  unfold putF
  rw [if_pos h, if_pos hok]
  obtain ⟨n, hn, hn12, hs, r1, r2, c1, c2⟩ := okP_facts hok
  obtain ⟨R, C, hR, hC, h1, h2, h3, h4, hL, q1, q2, q3, q4, hv⟩ := valid_facts h
  obtain ⟨k, rfl⟩ : ∃ k : Nat, row = k := ⟨row.toNat, by omega⟩
  obtain ⟨i, rfl⟩ : ∃ i : Nat, col = i := ⟨col.toNat, by omega⟩
  rw [hR] at r2
  rw [hC] at c2
  have e : ((k : Int) * (C : Int) + (i : Int)).toNat = k * C + i := by
    rw [show (k : Int) * (C : Int) + (i : Int) = ((k * C + i : Nat) : Int) by push_cast; rfl]; exact Int.toNat_natCast _
  have hsp := spot_in (R := R) (C := C) (k := k) (j := i + n - 1) (by omega) (by omega)
  rw [hC, hn, e, Int.toNat_natCast]
  dsimp only
  rw [putL_at (row_whole R f.cs C hL hv) hn12 (by rw [hL]; omega)]
  unfold putAt
  rw [if_pos rfl]
theorem diff_same {f g : Fr} (hf : validF f = true) (hg : validF g = true) (hr : f.rows = g.rows) (hc : f.cols = g.cols) : 0 ≤ diffF f g ∧ diffF f g = diffF g f ∧ diffF f f = 0 ∧ (decide (f = g) = (decide (diffF f g = 0) && decide (f.row = g.row) && decide (f.col = g.col))) := by
  obtain ⟨R, C, hR, hC, h1, h2, h3, h4, hL, q1, q2, q3, q4, hv⟩ := valid_facts hf
  obtain ⟨R', C', hR', hC', h1', h2', h3', h4', hL', q1', q2', q3', q4', hv'⟩ := valid_facts hg
  have eR : R' = R := by rw [hR, hR'] at hr; exact_mod_cast hr.symm
  have eC : C' = C := by rw [hC, hC'] at hc; exact_mod_cast hc.symm
  subst eR eC
  unfold diffF diffOk
  rw [hf, hg]
  simp only [hr, hc, Bool.and_self, decide_true, if_true, hL, hL', diffTo_self]
  refine ⟨Int.natCast_nonneg _, by rw [diffTo_sym], rfl, ?_⟩
  by_cases h0 : diffTo f.cs g.cs (R' * C') = 0
  · have : f.cs = g.cs := by
      apply List.ext_getElem?
      intro j
      by_cases hj : j < R' * C'
      · exact diffTo_zero h0 j hj
      · rw [List.getElem?_eq_none (by omega), List.getElem?_eq_none (by omega)]
    obtain ⟨a, b, c, d, e⟩ := f
    obtain ⟨a', b', c', d', e'⟩ := g
    dsimp only at this hr hc ⊢
    subst this hr hc
    simp [diffTo_self]
  · have hne : f ≠ g := fun e => h0 (by rw [e, diffTo_self])
    rw [decide_eq_false hne]
    have : ¬ ((diffTo f.cs g.cs (R' * C') : Nat) : Int) = 0 := by exact_mod_cast h0
    rw [decide_eq_false this]
    rfl
/-- Rows that are one and the same. -/
theorem rows_ext {A B : List Cl} {R C : Nat} (hC : 0 < C) (hA : A.length = R * C) (hB : B.length = R * C) (h : ∀ k, k < R → rowL A C k = rowL B C k) : A = B := by
  apply List.ext_getElem?
  intro j
  by_cases hj : j < R * C
  · have hk : j / C < R := by rw [Nat.div_lt_iff_lt_mul hC]; exact hj
    have := h _ hk
    have e : j / C * C + j % C = j := by rw [Nat.mul_comm]; exact Nat.div_add_mod j C
    have hm := Nat.mod_lt j hC
    rw [← e, ← rowL_at hm, ← rowL_at hm, this]
  · rw [List.getElem?_eq_none (by omega), List.getElem?_eq_none (by omega)]
/-- Larger, and as it was. -/
theorem rowR_back {l : List Cl} (h : rowB l = true) {n : Nat} (hn : l.length ≤ n) (h0 : 0 < l.length) : rowR (rowR l n) l.length = l := by
  apply List.ext_getElem?
  intro j
  rw [rowR_at _ h0]
  by_cases hj : j < l.length
  · have hx := List.getElem?_eq_getElem hj
    obtain ⟨c, hc⟩ : ∃ c, l[j] = c := ⟨_, rfl⟩
    rw [hc] at hx
    obtain ⟨-, f2, -⟩ := row_kp h j c hx
    have hg : (rowR l n).getD j blankC = c := by
      apply getD_some
      rw [rowR_at _ (by omega), if_pos (by omega), getD_some hx, if_neg]
      rintro ⟨a, b⟩
      obtain ⟨d, hd, _⟩ := f2.out b
      have := (List.getElem?_eq_some_iff.1 hd).1
      omega
    rw [if_pos hj, hg, hx, if_neg]
    rintro ⟨a, b⟩
    obtain ⟨d, hd, _⟩ := f2.out b
    have := (List.getElem?_eq_some_iff.1 hd).1
    omega
  · rw [if_neg hj, List.getElem?_eq_none (by omega)]
theorem res_back {f : Fr} (h : validF f = true) {rows cols : Int} (hm : mayB rows cols = true) (hr : f.rows ≤ rows) (hc : f.cols ≤ cols) : resF (resF f rows cols) f.rows f.cols = f := by
  obtain ⟨R, C, hR, hC, h1, h2, h3, h4, hL, q1, q2, q3, q4, hv⟩ := valid_facts h
  have hok : resOk f rows cols = true := by unfold resOk; rw [h, hm]; rfl
  have hv2 := resF_valid hok
  have hm2 : mayB f.rows f.cols = true := by unfold mayB; rw [hR, hC]; simp; omega
  have hok2 : resOk (resF f rows cols) f.rows f.cols = true := by unfold resOk; rw [hv2, hm2]; rfl
  unfold mayB at hm
  simp only [decide_eq_true_eq] at hm
  rw [resF, if_pos hok2]
  rw [resF, if_pos hok]
  obtain ⟨rw', cl', cs, row, col⟩ := f
  dsimp only at *
  subst hR hC
  obtain ⟨R', rfl⟩ : ∃ k : Nat, rows = k := ⟨rows.toNat, by omega⟩
  obtain ⟨C', rfl⟩ : ∃ k : Nat, cols = k := ⟨cols.toNat, by omega⟩
  simp only [Int.toNat_natCast]
  rw [Fr.mk.injEq]
  refine ⟨rfl, rfl, ?_, by omega, by omega⟩
  rw [valid_rows] at hv
  refine rows_ext (by omega) (resTo_len _ _ _ _ _ (Nat.min_le_left _ _)) hL fun k hk => ?_
  rw [resTo_row _ _ _ _ _ (Nat.min_le_left _ _) k hk, if_pos (by omega), resTo_row _ _ _ _ _ (Nat.min_le_left _ _) k (by omega), if_pos (by omega)]
  have hl := rowL_len hL hk
  have := rowR_back (hv k hk) (n := C') (by omega) (by omega)
  rw [hl] at this
  exact this
/-- Smaller, and larger again: what was not cut. -/
theorem res_fore {f : Fr} (h : validF f = true) {R' C' : Nat} (hm : mayB R' C' = true) (hr : (R' : Int) ≤ f.rows) (hc : (C' : Int) ≤ f.cols) {j : Nat} (hj : j < f.cs.length) (h1 : j / f.cols.toNat < R') (h2 : j % f.cols.toNat + 1 < C') :
    (resF (resF f R' C') f.rows f.cols).cs[j]? = f.cs[j]? := by
  obtain ⟨R, C, hR, hC, b1, b2, b3, b4, hL, q1, q2, q3, q4, hv⟩ := valid_facts h
  have hok : resOk f R' C' = true := by unfold resOk; rw [h, hm]; rfl
  have hv2 := resF_valid hok
  have hm2 : mayB f.rows f.cols = true := by unfold mayB; rw [hR, hC]; simp; omega
  have hok2 : resOk (resF f R' C') f.rows f.cols = true := by unfold resOk; rw [hv2, hm2]; rfl
  rw [resF, if_pos hok2]
  rw [resF, if_pos hok]
  obtain ⟨rw', cl', cs, row, col⟩ := f
  dsimp only at *
  subst hR hC
  simp only [Int.toNat_natCast] at *
  have hk : j / C < R := by omega
  have hmd := Nat.mod_lt j (show 0 < C by omega)
  have e : j / C * C + j % C = j := by rw [Nat.mul_comm]; exact Nat.div_add_mod j C
  have hx := List.getElem?_eq_getElem hj
  have hlen := rowL_len hL hk
  rw [valid_rows] at hv
  rw [← e, ← rowL_at hmd, ← rowL_at hmd, resTo_row _ _ _ _ _ (Nat.min_le_left _ _) _ hk, if_pos (by omega), resTo_row _ _ _ _ _ (Nat.min_le_left _ _) _ h1, if_pos (by omega)]
  obtain ⟨l, hl⟩ : ∃ l, rowL cs C (j / C) = l := ⟨_, rfl⟩
  rw [hl] at hlen ⊢
  have hrow : rowB l = true := by rw [← hl]; exact hv _ hk
  obtain ⟨c, hc'⟩ : ∃ c, l[j % C]? = some c := ⟨_, List.getElem?_eq_getElem (by omega)⟩
  obtain ⟨-, f2, -⟩ := row_kp hrow _ c hc'
  have hg : (rowR l C').getD (j % C) blankC = c := by
    apply getD_some
    rw [rowR_at _ (by omega), if_pos (by omega), getD_some hc', if_neg (by omega)]
  rw [rowR_at _ (by omega), if_pos hmd, hg, hc', if_neg (by omega)]
end Go.Proofs.YtmpajkfbiocmiaaDoor
namespace Go.Proofs.YtmpajkfbiocmiaaDoor
open Go.RowKit

theorem diff_no {f g : Fr} (h : diffOk f g = false) : diffF f g = -1 := by unfold diffF; rw [h]; rfl
theorem diff_yes {f g : Fr} (h : diffOk f g = true) : diffF f g = ((diffTo f.cs g.cs f.cs.length : Nat) : Int) := by unfold diffF; rw [if_pos h]
theorem diffTo_step {A B : List Cl} {i : Nat} {c d : Cl} (hc : A[i]? = some c) (hd : B[i]? = some d) : diffTo A B (i + 1) = diffTo A B i + if sameC c d = true then 0 else 1 := by
  rw [diffTo, hc, hd]
  congr 1
  unfold sameC
  by_cases e : c = d
  · simp [e]
  · simp [e]
end Go.Proofs.YtmpajkfbiocmiaaDoor
namespace Go.Proofs.YtmpajkfbiocmiaaDoor

/-- The first j cells from s on are blanks. -/
def blTo (L : List Cl) (s : Nat) : Nat → List Cl
  | 0 => L
  | j + 1 => (blTo L s j).set (s + j) blankC
theorem bl_len (L : List Cl) (s : Nat) : ∀ j, (blTo L s j).length = L.length
  | 0 => rfl
  | j + 1 => by unfold blTo; rw [List.length_set, bl_len L s j]
theorem bl_row {L : List Cl} {R C k i : Nat} (hL : L.length = R * C) (hk : k < R) : ∀ m, i + m ≤ C → blTo L (k * C + i) m = replR L C k (blTo (rowL L C k) i m)
  | 0, _ => by unfold blTo; rw [replR_self hL hk]
  | m + 1, h => by
    unfold blTo
    rw [bl_row hL hk m (by omega), Nat.add_assoc, replR_set hL hk (by rw [bl_len]; exact rowL_len hL hk) (by omega)]
theorem mended_row {L l : List Cl} {R C k : Nat} (hL : L.length = R * C) (hk : k < R) (hl : l.length = C) : mended (replR L C k l) (k * C) C = replR L C k (mendL none l) := by
  have h2 : k * C + C = (k + 1) * C := by rw [Nat.add_mul, Nat.one_mul]
  have e : mended (replR L C k l) (k * C) C = replR (replR L C k l) C k (mendL none l) := by
    unfold mended
    rw [replR_part hL hk hl, h2]
    rfl
  rw [e, replR_repl hL hk hl]
theorem put_doc1 {L : List Cl} {R C k i : Nat} (hL : L.length = R * C) (hv : validL L R C = true) (hk : k < R) (hi : i + 1 ≤ C) (c : Cl) : (mended (blTo L (k * C + i) 1) (k * C) C).set (k * C + i) c = putL L (k * C + i) 1 c := by
  have hr : rowB (rowL L C k) = true := by unfold validL at hv; rw [List.all_eq_true] at hv; exact hv k (List.mem_range.2 hk)
  have hl := rowL_len hL hk
  rw [put_rows hL hv hk (.inl rfl) hi, ← putD_eq hr (.inl rfl) (by omega), bl_row hL hk 1 hi, mended_row hL hk (by rw [bl_len]; exact hl), replR_set hL hk (by rw [mend_len, bl_len]; exact hl) (by omega)]
  unfold putD
  rw [if_neg (by omega), blank_1]
  rfl
theorem put_doc2 {L : List Cl} {R C k i : Nat} (hL : L.length = R * C) (hv : validL L R C = true) (hk : k < R) (hi : i + 2 ≤ C) (c : Cl) : ((mended (blTo L (k * C + i) 2) (k * C) C).set (k * C + i) c).set (k * C + i + 1) (halfC c) = putL L (k * C + i) 2 c := by
  have hr : rowB (rowL L C k) = true := by unfold validL at hv; rw [List.all_eq_true] at hv; exact hv k (List.mem_range.2 hk)
  have hl := rowL_len hL hk
  rw [put_rows hL hv hk (.inr rfl) hi, ← putD_eq hr (.inr rfl) (by omega), bl_row hL hk 2 hi, mended_row hL hk (by rw [bl_len]; exact hl), replR_set hL hk (by rw [mend_len, bl_len]; exact hl) (by omega), Nat.add_assoc, replR_set hL hk (by rw [List.length_set, mend_len, bl_len]; exact hl) (by omega)]
  unfold putD
  rw [if_pos rfl, blank_2]
  rfl
end Go.Proofs.YtmpajkfbiocmiaaDoor
namespace Go.Proofs.YtmpajkfbiocmiaaDoor
open Go.RowKit

theorem part_len {L : List Cl} {R C i : Nat} (hL : L.length = R * C) (hi : i < R) : i * C + C ≤ R * C := by
  have : (i + 1) * C ≤ R * C := Nat.mul_le_mul_right _ hi
  rw [Nat.add_mul, Nat.one_mul] at this
  exact this
theorem res_row0 {cs : List Cl} {C n R' i : Nat} (hi : i < R') : rowL (resTo cs C n R' i) n i = List.replicate n blankC := by
  rw [resTo_row _ _ _ _ i (by omega) i hi, if_neg (by omega)]
/-- Behind the copy of a row. -/
theorem res_mid {M S : List Cl} {C n R' i k : Nat} (hM : M.length = R' * n) (hi : i < R') (h0 : rowL M n i = List.replicate n blankC) (hS : S.length = C) (hk : k = min C n) : M.take (i * n) ++ S.take k ++ M.drop (i * n + k) = replR M n i (fillL S n) := by
  have h1 := part_len hM hi
  have h2 : (i + 1) * n = i * n + n := by rw [Nat.add_mul, Nat.one_mul]
  have e1 : (M.take (i * n)).length = i * n := by rw [List.length_take]; omega
  have e2 : (S.take k).length = k := by rw [List.length_take]; omega
  apply List.ext_getElem?
  intro j
  rw [replR_at hM hi (fill_len _ _), fill_at]
  have hkn : k ≤ n ∧ k ≤ C ∧ (C ≤ k ∨ n ≤ k) := by omega
  rw [h2]
  obtain ⟨p, hp⟩ : ∃ p, i * n = p := ⟨_, rfl⟩
  rw [hp] at e1 h1 ⊢
  by_cases a : j < p
  · rw [if_neg (show ¬ (p ≤ j ∧ j < p + n) by omega), List.append_assoc, List.getElem?_append_left (by omega), List.getElem?_take_of_lt a]
  by_cases b : j < p + k
  · have hx := List.getElem?_eq_getElem (show j - p < S.length by omega)
    rw [if_pos (show p ≤ j ∧ j < p + n by omega), if_pos (show j - p < n by omega), List.getElem?_append_left (by rw [List.length_append]; omega), List.getElem?_append_right (by omega), e1, List.getElem?_take_of_lt (by omega), getD_some hx, hx]
  · rw [List.getElem?_append_right (by rw [List.length_append]; omega), List.length_append, e1, e2, List.getElem?_drop, show p + k + (j - (p + k)) = j by omega]
    by_cases c : j < p + n
    · rw [if_pos (show p ≤ j ∧ j < p + n by omega), if_pos (show j - p < n by omega), List.getD_eq_getElem?_getD, List.getElem?_eq_none (show S.length ≤ j - p by omega)]
      have := congrArg (fun l => l[j - p]?) h0
      simp only [rowL_at (show j - p < n by omega), List.getElem?_replicate, show j - p < n by omega, if_true] at this
      rw [hp, show p + (j - p) = j by omega] at this
      exact this
    · rw [if_neg (show ¬ (p ≤ j ∧ j < p + n) by omega)]
theorem res_last {M S : List Cl} {n R' i : Nat} (hM : M.length = R' * n) (hi : i < R') (hn : 0 < n) (h : ((fillL S n).getD (n - 1) blankC).w = 2) : (replR M n i (fillL S n)).set (i * n + (n - 1)) blankC = replR M n i (rowR S n) := by
  rw [replR_set hM hi (fill_len _ _) (by omega)]
  unfold rowR
  rw [if_pos h]
theorem res_stay {M S : List Cl} {n i : Nat} (h : ¬ ((fillL S n).getD (n - 1) blankC).w = 2) : replR M n i (fillL S n) = replR M n i (rowR S n) := by
  unfold rowR
  rw [if_neg h]
theorem res_get {M S : List Cl} {n R' i : Nat} (hM : M.length = R' * n) (hi : i < R') (hn : 0 < n) : (replR M n i (fillL S n))[i * n + (n - 1)]? = some ((fillL S n).getD (n - 1) blankC) := by
  have h1 := part_len hM hi
  have h2 : (i + 1) * n = i * n + n := by rw [Nat.add_mul, Nat.one_mul]
  have hx := List.getElem?_eq_getElem (show n - 1 < (fillL S n).length by rw [fill_len]; omega)
  rw [replR_at hM hi (fill_len _ _), if_pos (by omega), show i * n + (n - 1) - i * n = n - 1 by omega, getD_some hx, hx]
theorem res_doc0 {M S : List Cl} {n R' i : Nat} (hM : M.length = R' * n) (hi : i < R') (h0 : rowL M n i = List.replicate n blankC) : M = replR M n i (fillL (S.take 0) n) := by
  rw [fill_0, ← h0, replR_self hM hi]
theorem res_doc1 {M S : List Cl} {n R' i j : Nat} {x : Cl} (hM : M.length = R' * n) (hi : i < R') (hj : j < n) (hx : S[j]? = some x) : (replR M n i (fillL (S.take j) n)).set (i * n + j) x = replR M n i (fillL (S.take (j + 1)) n) := by
  rw [replR_set hM hi (fill_len _ _) hj, fill_step S n j x hx hj]
theorem res_doc2 {M S : List Cl} {C n R' i : Nat} (hM : M.length = R' * n) (hi : i < R') (hn : 0 < n) (hS : S.length = C) (hr : rowB S = true) : mended (replR M n i (fillL (S.take (min n C)) n)) (i * n) n = replR M n i (rowR S n) := by
  rw [mended_row hM hi (fill_len _ _), fill_cut _ _ _ (by omega), mend_fill hr hn]
theorem flatC_cut {L : List Cl} {k : Nat} (h : k ≤ L.length) : (flatC L).take (k * 6) = flatC (L.take k) ∧ (flatC L).drop (k * 6) = flatC (L.drop k) := by
  have e : flatC (L.take k) ++ flatC (L.drop k) = flatC L := by rw [← flatC_app, List.take_append_drop]
  have hl : (flatC (L.take k)).length = k * 6 := by rw [flatC_len, List.length_take, Nat.min_eq_left h]
  exact ⟨by rw [← e, List.take_left' hl], by rw [← e, List.drop_left' hl]⟩
theorem splice_flat {cl : List Value} {L S : List Cl} {q n : Nat} (hn : L.length = n) (hl : n * 6 ≤ cl.length) (ht : cl.take (n * 6) = flatC L) (hq : q + S.length ≤ n) :
    (cl.take (q * 6) ++ flatC S ++ cl.drop (q * 6 + S.length * 6)).take (n * 6) = flatC (L.take q ++ S ++ L.drop (q + S.length)) := by
  have hc : cl = flatC L ++ cl.drop (n * 6) := by rw [← ht, List.take_append_drop]
  have hfl : (flatC L).length = n * 6 := by rw [flatC_len, hn]
  obtain ⟨a1, -⟩ := flatC_cut (L := L) (k := q) (by omega)
  obtain ⟨-, a2⟩ := flatC_cut (L := L) (k := q + S.length) (by omega)
  have h6 : q * 6 + S.length * 6 = (q + S.length) * 6 := by omega
  obtain ⟨r, hr⟩ : ∃ r, cl = flatC L ++ r := ⟨_, hc⟩
  have t1 : cl.take (q * 6) = flatC (L.take q) := by rw [hr, List.take_append_of_le_length (by omega), a1]
  have t2 : cl.drop (q * 6 + S.length * 6) = flatC (L.drop (q + S.length)) ++ r := by rw [hr, h6, List.drop_append_of_le_length (by omega), a2]
  rw [t1, t2, ← List.append_assoc, ← flatC_app, ← flatC_app]
  exact List.take_left' (by rw [flatC_len, List.length_append, List.length_append, List.length_take, List.length_drop]; omega)
/-- A copy into a part of a slice of the call's own. -/
theorem own_copy {w : World} (B g q n c : Nat) (L : List Cl) (h : OwnC w B (.slice (some ⟨g, 0, none⟩) n c) L) (hn : L.length = n) (dLen dCap : Nat)
    (b o sLen sCap : Nat) (S : List Cl) (hS : S.length = sLen) (hcl : ClsAt w (some ⟨b, o, none⟩) S) (k : Nat) (hk : k = min sLen dLen) (hq : q + k ≤ n) (ty : TypeId) :
    ∃ w', (Builtin.copy_ #[29, 29] ty #[.slice (some ⟨g, q * 6, none⟩) dLen dCap, .slice (some ⟨b, o, none⟩) sLen sCap]).run Tryd.prog w = .ok (goInt k) w' ∧ OwnC w' B (.slice (some ⟨g, 0, none⟩) n c) (L.take q ++ S.take k ++ L.drop (q + k)) ∧ w.grownBy w' (some g) := by
  subst hn hS
  have hbase := h.base
  rcases h.2 with ⟨e, h0⟩ | ⟨g', cap, cur, e, hg, hh, hcc, hmx, hsz, htk⟩
  · cases e
  injection e with e e2 e3
  injection e with e
  injection e with e
  subst e e3
  have hkl : (flatC (S.take k)).length = k * 6 := by rw [flatC_len, List.length_take]; omega
  have hcl2 : ClsAt w (some ⟨b, o, none⟩) (S.take k) := by
    have := hcl.sub 0 k
    rw [Nat.zero_mul, Nat.add_zero, List.drop_zero] at this
    exact this
  have hq6 : q * 6 + k * 6 ≤ cur.size := by
    rw [hsz]
    have : (q + k) * 6 ≤ c * 6 := Nat.mul_le_mul_right _ (by omega)
    omega
  have hSk : (S.take k).length = k := by rw [List.length_take]; omega
  obtain ⟨cl, rfl⟩ : ∃ cl : List Value, cur = cl.toArray := ⟨cur.toList, by simp⟩
  simp only [List.size_toArray] at hq6 hsz
  have htk' : cl.take (L.length * 6) = flatC L := by simpa using htk
  have hnc : L.length * 6 ≤ cl.length := by rw [hsz]; exact Nat.mul_le_mul_right _ hcc
  have hfl := splice_flat (S := S.take k) (q := q) rfl hnc htk' (by rw [hSk]; exact hq)
  rw [hSk] at hfl
  obtain ⟨N, hN⟩ : ∃ N, cl.take (q * 6) ++ flatC (S.take k) ++ cl.drop (q * 6 + k * 6) = N := ⟨_, rfl⟩
  have hNl : N.length = c * 6 := by rw [← hN, List.length_append, List.length_append, List.length_take, List.length_drop, hkl]; omega
  have hLl : (L.take q ++ S.take k ++ L.drop (q + k)).length = L.length := by rw [List.length_append, List.length_append, List.length_take, List.length_take, List.length_drop]; omega
  have hm : Nat.min S.length dLen = k := hk.symm
  have hrun := run_copy_rowN (P := Tryd.prog) w 29 29 ty 39 6 g (q * 6) dLen dCap ⟨b, o, none⟩ S.length sCap cl.toArray _ (flatC (S.take k)) Tryd.underlying29 infoC2 hh (by rw [hkl, hm]) hcl2.flat (by rw [hkl]; simpa using hq6) (flatC_one _)
  rw [hm, hkl] at hrun
  simp only [] at hrun
  rw [hN] at hrun hfl
  have hh2 := setRow_heap w g cl.toArray N.toArray _ (0, 0) hh
  have hown : OwnC (w.setRow g N.toArray) B (.slice (some ⟨g, 0, none⟩) L.length c) (L.take q ++ S.take k ++ L.drop (q + k)) := by
    refine ⟨by rw [flatC_len], .inr ⟨g, c, N.toArray, ?_, hg, hh2, by rw [hLl]; exact hcc, hmx, by simpa using hNl, ?_⟩⟩
    · rw [hLl]
    · rw [hLl]; simpa using hfl
  have hgr : w.grownBy (w.setRow g N.toArray) (some g) := by
    refine ⟨by simp [World.setRow], by simp [World.setRow], by simp [World.setRow], by simp [World.setRow], fun j hj hne => ?_⟩
    have : g ≠ j := fun e => hne (by rw [e])
    simp [World.setRow, Array.getElem?_modify, this]
  exact ⟨_, hrun, hown, hgr⟩
end Go.Proofs.YtmpajkfbiocmiaaDoor
namespace Go.Proofs.YtmpajkfbiocmiaaDoor
open Go.RowKit

theorem resF_bad {f : Fr} {rows cols : Int} (h : resOk f rows cols = false) : resF f rows cols = noF ∧ resE f rows cols = 2 := by unfold resF resE; rw [h]; exact ⟨rfl, rfl⟩
theorem resF_ok {f : Fr} {rows cols : Int} (h : resOk f rows cols = true) : resF f rows cols = ⟨rows, cols, resTo f.cs f.cols.toNat cols.toNat rows.toNat (min rows.toNat f.rows.toNat), min f.row (rows - 1), min f.col (cols - 1)⟩ ∧ resE f rows cols = 0 := by unfold resF resE; rw [if_pos h, if_pos h]; exact ⟨rfl, rfl⟩
theorem FrOwn.nil_form {W : World} {B : Nat} {v : Value} (h : FrOwn W B v noF) : ∃ A c, v = .agg #[.int .i64 0, .int .i64 0, .slice A 0 c, .int .i64 0, .int .i64 0] := by
  obtain ⟨A, c, e, -, -⟩ := h
  exact ⟨A, c, e⟩
/-- The two boxes. -/
def Bx2 (W : World) (z : Nat) (a b : Int) (s : Value) (c d : Int) : Prop := Blk W z 31 (frCells a b s c d) ∧ Blk W (z + 1) 31 (frCells 0 0 (.slice none 0 0) 0 0)
theorem bx2_new (w : World) (a b : Int) (s : Value) (c d : Int) : Bx2 ((w.alloc (.cells (frCells a b s c d).toArray 31)).alloc (.cells (frCells 0 0 (.slice none 0 0) 0 0).toArray 31)) w.heap.size a b s c d := by
  have h1 := Blk.new (w.alloc (.cells (frCells a b s c d).toArray 31)) 31 (frCells 0 0 (.slice none 0 0) 0 0)
  rw [World.size_alloc] at h1
  exact ⟨(Blk.new w _ _).alloc _, h1⟩
theorem Bx2.below {W W' : World} {z : Nat} {a b c d : Int} {s : Value} (h : Bx2 W z a b s c d) (hb : Below W.heap.size W W') : Bx2 W' z a b s c d := ⟨h.1.below hb, h.2.below hb⟩
theorem Bx2.alloc {W : World} {z : Nat} {a b c d : Int} {s : Value} (h : Bx2 W z a b s c d) (o : Obj) : Bx2 (W.alloc o) z a b s c d := ⟨h.1.alloc o, h.2.alloc o⟩
theorem Bx2.grown {W W' : World} {z g : Nat} {a b c d : Int} {s : Value} (h : Bx2 W z a b s c d) (hg : W.grownBy W' (some g)) (hz : z + 1 < g) : Bx2 W' z a b s c d := ⟨h.1.grown hg (by omega), h.2.grown hg (by omega)⟩
theorem Bx2.far {W : World} {z : Nat} {a b c d : Int} {s : Value} (h : Bx2 W z a b s c d) {p : Addr} (hp : z + 1 < p.block) (x : Value) : Bx2 (W.setCell p x) z a b s c d := ⟨h.1.far (by omega) x, h.2.far (by omega) x⟩
theorem Bx2.reads {W : World} {z : Nat} {a b c d : Int} {s : Value} (h : Bx2 W z a b s c d) :
    (W.cell? ⟨z, 0, none⟩ = some (.int .i64 a) ∧ W.cell? ⟨z, 1, none⟩ = some (.int .i64 b) ∧ W.cell? ⟨z, 2, none⟩ = some s ∧ W.cell? ⟨z, 3, none⟩ = some (.int .i64 c) ∧ W.cell? ⟨z, 4, none⟩ = some (.int .i64 d) ∧ ∀ i, W.frozen? ⟨z, i, none⟩ = false) ∧
    (W.cell? ⟨z + 1, 0, none⟩ = some (.int .i64 0) ∧ W.cell? ⟨z + 1, 1, none⟩ = some (.int .i64 0) ∧ W.cell? ⟨z + 1, 2, none⟩ = some (.slice none 0 0) ∧ W.cell? ⟨z + 1, 3, none⟩ = some (.int .i64 0) ∧ W.cell? ⟨z + 1, 4, none⟩ = some (.int .i64 0) ∧ ∀ i, W.frozen? ⟨z + 1, i, none⟩ = false) :=
  ⟨fr_reads h.1, fr_reads h.2⟩
theorem own_drew {W : World} {B : Nat} {v : Value} {L : List Cl} (h : OwnC W B v L) : OwnC W.drew B v L := h
theorem wrap_mul {a b q : Nat} (h : a * b = q) (hq : q ≤ 100000) : IntKind.i64.wrap ((a : Int) * (b : Int)) = (q : Int) := by
  rw [show (a : Int) * (b : Int) = (q : Int) by rw [← h]; push_cast; rfl]
  simp [IntKind.wrap_i64]; omega
theorem wrap_mul1 {a b q : Nat} (h : a * b = q) (hq : q + b ≤ 100000) : IntKind.i64.wrap (((a : Int) + 1) * (b : Int)) = (q : Int) + (b : Int) := by
  rw [show ((a : Int) + 1) * (b : Int) = (q : Int) + (b : Int) by rw [Int.add_mul, Int.one_mul, ← h]; push_cast; rfl]
  simp [IntKind.wrap_i64]; omega
end Go.Proofs.YtmpajkfbiocmiaaDoor
namespace Go.Proofs.YtmpajkfbiocmiaaDoor
open Go.RowKit

theorem info_bld : (Tryd.prog.info? 55).map (·.size) = some 2 := by kernel_rfl
theorem info_byt : (Tryd.prog.info? 5).map (fun i => (i.zero, i.size, i.bytes)) = some (some (.int .u8 0), 1, 1) := by kernel_rfl
theorem lies_bld : liesAt Tryd.prog Tryd.prog.depth 55 (2 / Tryd.prog.cellsOf 55) 0 55 1 = true := by kernel_rfl
set_option maxRecDepth 100000 in
set_option maxHeartbeats 1000000 in
theorem check_used (b : Nat) (w : World) (h0 : w.cell? ⟨b, 0, none⟩ = some (.pointer (some ⟨b, 0, none⟩))) :
    Calls Tryd.prog 28 #[.pointer (some ⟨b, 0, none⟩)] w fun e w' => e = .returned (.tuple #[]) ∧ w' = w := by
  obtain ⟨j, hj, -⟩ := Option.map_eq_some_iff.1 info_bld
  go_enter Tryd.func28, Tryd.ntmps28
  go_wp2
  rw [Lib.run_neq_ptr_same w _ Tryd.underlying53 hj]
  go_wp2
  go_end0
  exact ⟨rfl, rfl⟩
set_option maxRecDepth 100000 in
set_option maxHeartbeats 1000000 in
theorem check_fresh (b : Nat) (w : World) (h0 : w.cell? ⟨b, 0, none⟩ = some (.pointer none)) (hsh : w.shape? b = some (55, 2)) (hfz : w.frozen? ⟨b, 0, none⟩ = false) :
    Calls Tryd.prog 28 #[.pointer (some ⟨b, 0, none⟩)] w fun e w' => e = .returned (.tuple #[]) ∧ w' = w.setCell ⟨b, 0, none⟩ (.pointer (some ⟨b, 0, none⟩)) := by
  obtain ⟨j, hj, hjs⟩ := Option.map_eq_some_iff.1 info_bld
  go_enter Tryd.func28, Tryd.ntmps28
  go_wp2
  rw [Lib.run_to_unsafe w ⟨b, 0, none⟩ Tryd.underlying53 Tryd.underlying87 hj (by rw [hjs]; decide) hsh (Nat.zero_lt_succ 1)]
  simp only [Result.andThen]
  rw [Oper.upon_value]
  go_wp2
  rw [run_callFunc_extern Tryd.func37 (by kernel_rfl) (by kernel_rfl) (by kernel_rfl) (e := Extern.AbiNoEscape.same) (by kernel_rfl)]
  rw [Lib.run_noEscape]
  simp only [Result.andThen]
  rw [Oper.upon_value]
  go_wp2
  rw [Lib.run_from_unsafe w ⟨b, 0, none⟩ Tryd.underlying87 Tryd.underlying53 hj hsh lies_bld]
  simp only [Result.andThen]
  rw [Oper.upon_value]
  go_wp2
  go_end0
  exact ⟨rfl, rfl⟩
theorem check_any (B b : Nat) (bs : List Value) (w : World) (h : Lib.IsBuilder 55 5 B b bs w) :
    Calls Tryd.prog 28 #[.pointer (some ⟨b, 0, none⟩)] w fun e w' => e = .returned (.tuple #[]) ∧ (Lib.BuilderAt 55 5 B b (.pointer (some ⟨b, 0, none⟩)) bs w' ∧ Below B w w') := by
  rcases h with h | h
  · exact (check_fresh b w h.cell0 h.shape h.frozen0).mono (by rintro e w' ⟨rfl, rfl⟩; exact ⟨rfl, h.used _, (Below.refl B w).setCell (p := ⟨b, 0, none⟩) h.1 _⟩)
  · exact (check_used b w h.cell0).mono (by rintro e w' ⟨rfl, rfl⟩; exact ⟨rfl, h, Below.refl B _⟩)
theorem own_slice {W : World} {B : Nat} {e : TypeId} {v : Value} {n : Nat} {xs : List Value} (h : W.ownsRow B e 1 v n xs) : ∃ ao n' cap, v = .slice ao n' cap := by
  rcases h.2 with ⟨hv, _⟩ | ⟨g, cap, cur, hv, _⟩
  · exact ⟨_, _, _, hv⟩
  · exact ⟨_, _, _, hv⟩
set_option maxRecDepth 100000 in
set_option maxHeartbeats 1000000 in
theorem write_any (B b : Nat) (bs : List Value) (s : ByteArray) (w : World) (h : Lib.IsBuilder 55 5 B b bs w) (hlen : bs.length + s.size ≤ 140737488355328) (hBw : B ≤ w.heap.size) :
    Calls Tryd.prog 15 #[.pointer (some ⟨b, 0, none⟩), .string s] w fun e w' => e = .returned (.tuple #[.int .i64 s.size, .nilIface]) ∧ (Lib.BuilderAt 55 5 B b (.pointer (some ⟨b, 0, none⟩)) (bs ++ Lib.strCells s) w' ∧ Below B w w') := by
  obtain ⟨i0, hi, hz0, hz1, hz2⟩ := info_parts info_byt
  have HB := hide h
  clear h
  go_enter Tryd.func15, Tryd.ntmps15
  go_wp2_with (first
    | (go_at_call 28; refine (check_any B b bs _ HB.out).mono ?_; rintro e w1 ⟨rfl, ⟨hB, v, hbk, hown, hne⟩, hb1⟩; have hv := hown.lt; have c1 : w1.cell? ⟨b, 1, none⟩ = some v := (by rw [Lib.cell_of_heap hbk]; rfl); have HOWN := hide hown; have HBK := hide hbk; have HNE := hide hne; have HB1 := hide hb1; have HLT := hide hv; clear hv hown hbk hne hb1)
    | (at_builtin; refine Lib.wpList_append_own_string _ rfl _ _ 37 9 rfl B 5 i0 Tryd.underlying37 Tryd.underlying9 hi hz0 hz1 hz2 _ _ _ rfl HOWN.out s rfl (by unfold maxLen; omega) (by omega) (by have := HB1.out.size; omega) ?_; intro v' w2 hown' hgrow _; have hlt := (Array.getElem?_eq_some_iff.1 HBK.out).1; have hb2 : w2.heap[b]? = some (.cells #[.pointer (some ⟨b, 0, none⟩), v] 55 (0, 0)) := (hgrow.block b hlt (fun e => HNE.out e.symm)).trans HBK.out; have d1 : w2.cell? ⟨b, 1, none⟩ = some v := (by rw [Lib.cell_of_heap hb2]; rfl); have f1 : w2.frozen? ⟨b, 1, none⟩ = false := Lib.frozen_of_heap hb2 1; have HOW2 := hide hown'; have HB2 := hide hb2; have HBB := hide (HB1.out.grown hgrow (by have := HB1.out.size; omega) (fun k hk => (HLT.out k hk).1)); obtain ⟨ao, n', cap, rfl⟩ := own_slice hown'; clear hown' hgrow hb2)
    | fail)
  go_ret2
  exact ⟨rfl, Lib.BuilderAt.put (T := 55) (e := 5) hB HB2.out (bs' := bs ++ Lib.strCells s) (by simpa [Lib.strCells_length] using HOW2.out) (by decide), HBB.out.setCell (p := ⟨b, 1, none⟩) hB _⟩
end Go.Proofs.YtmpajkfbiocmiaaDoor
namespace Go.Proofs.YtmpajkfbiocmiaaDoor
open Go.RowKit

/-- What a row shows. -/
def shB : List Cl → List UInt8
  | [] => []
  | c :: t => (if 0 < c.w then (putS c.r).data.toList else []) ++ shB t
theorem shB_app (l m : List Cl) : shB (l ++ m) = shB l ++ shB m := by
  induction l with
  | nil => rfl
  | cons a t ih => rw [List.cons_append, shB, shB, ih, List.append_assoc]
theorem shB_step {l : List Cl} {j : Nat} {c : Cl} (h : l[j]? = some c) : shB (l.take (j + 1)) = shB (l.take j) ++ if 0 < c.w then (putS c.r).data.toList else [] := by
  rw [List.take_add_one, h, shB_app]
  simp [shB]
theorem putS_le (r : Int) : (putS r).size ≤ 4 := by
  unfold putS
  split
  · have key : ∀ c : Nat, (if c < 0x80 then (⟨#[UInt8.ofNat c]⟩ : ByteArray) else if c < 0x800 then ⟨#[UInt8.ofNat (0xC0 + c / 64), UInt8.ofNat (0x80 + c % 64)]⟩ else if c < 0x10000 then ⟨#[UInt8.ofNat (0xE0 + c / 4096), UInt8.ofNat (0x80 + c / 64 % 64), UInt8.ofNat (0x80 + c % 64)]⟩ else ⟨#[UInt8.ofNat (0xF0 + c / 262144), UInt8.ofNat (0x80 + c / 4096 % 64), UInt8.ofNat (0x80 + c / 64 % 64), UInt8.ofNat (0x80 + c % 64)]⟩).size ≤ 4 := by
      intro c
      split
      · exact (show (1 : Nat) ≤ 4 by omega)
      split
      · exact (show (2 : Nat) ≤ 4 by omega)
      split
      · exact (show (3 : Nat) ≤ 4 by omega)
      · exact (show (4 : Nat) ≤ 4 by omega)
    exact key _
  · exact Nat.zero_le _
theorem shB_le : ∀ (l : List Cl), (shB l).length ≤ 4 * l.length
  | [] => by simp [shB]
  | c :: t => by
    have h1 := shB_le t
    have h2 : (putS c.r).data.toList.length ≤ 4 := by have := putS_le c.r; simpa using this
    rw [shB, List.length_append, List.length_cons]
    split
    · omega
    · simp; omega
def rowS (cs : List Cl) (C i : Nat) : ByteArray := ⟨(shB (rowL cs C i)).toArray⟩
def rowsTo (cs : List Cl) (C k : Nat) : List ByteArray := (List.range k).map fun i => rowS cs C i
theorem rowsTo_len (cs : List Cl) (C k : Nat) : (rowsTo cs C k).length = k := by simp [rowsTo]
theorem rowsTo_step (cs : List Cl) (C k : Nat) : rowsTo cs C (k + 1) = rowsTo cs C k ++ [rowS cs C k] := by
  unfold rowsTo
  rw [List.range_succ, List.map_append]
  rfl
def rowsF (f : Fr) : List ByteArray := if validF f = true then rowsTo f.cs f.cols.toNat f.rows.toNat else []
theorem rowsF_bad {f : Fr} (h : validF f = false) : rowsF f = [] := by unfold rowsF; rw [h]; rfl
theorem rowsF_ok {f : Fr} (h : validF f = true) : rowsF f = rowsTo f.cs f.cols.toNat f.rows.toNat := by unfold rowsF; rw [if_pos h]
/-- A slice of strings of the call's own. -/
def OwnS (W : World) (B : Nat) (v : Value) (L : List ByteArray) : Prop := W.ownsRow B 9 1 v L.length (L.map Value.string)
theorem OwnS.below {w W : World} {B : Nat} {v : Value} {L : List ByteArray} (h : OwnS w B v L) (hb : Below w.heap.size w W) : OwnS W B v L := by
  refine ⟨h.1, ?_⟩
  rcases h.2 with h0 | ⟨g, cap, cur, rfl, hg, hh, q⟩
  · exact .inl h0
  · exact .inr ⟨g, cap, cur, rfl, hg, (hb.block g (Array.getElem?_eq_some_iff.1 hh).1).trans hh, q⟩
theorem OwnS.formL {W : World} {B n : Nat} {v : Value} {L : List ByteArray} (h : OwnS W B v L) (hn : L.length = n) : ∃ A c, v = .slice A n c ∧ n ≤ c ∧ c ≤ maxLen := by
  subst hn
  rcases h.2 with ⟨rfl, h0⟩ | ⟨g, cap, cur, rfl, hg, hh, q, qm, _⟩
  · exact ⟨_, _, by rw [h0], by omega, by unfold maxLen; omega⟩
  · exact ⟨_, _, rfl, q, qm⟩
theorem OwnS.mono {W : World} {B C : Nat} {v : Value} {L : List ByteArray} (h : OwnS W B v L) (hc : C ≤ B) : OwnS W C v L := by
  refine ⟨h.1, ?_⟩
  rcases h.2 with h0 | ⟨g, cap, cur, rfl, hg, r⟩
  · exact .inl h0
  · exact .inr ⟨g, cap, cur, rfl, by omega, r⟩
theorem OwnS.low {W : World} {B : Nat} {v : Value} {L : List ByteArray} (h : OwnS W B v L) {p : Addr} (hp : p.block < B) (x : Value) : OwnS (W.setCell p x) B v L := by
  refine ⟨h.1, ?_⟩
  rcases h.2 with h0 | ⟨g, cap, cur, rfl, hg, hh, r⟩
  · exact .inl h0
  · exact .inr ⟨g, cap, cur, rfl, hg, (Below.heap_setCell _ _ _ _ (by omega)).trans hh, r⟩
theorem OwnS.putObj {W : World} {B l : Nat} {v : Value} {L : List ByteArray} (h : OwnS W B v L) (hp : l < B) (o : Obj) : OwnS (W.putObj l o) B v L := by
  refine ⟨h.1, ?_⟩
  rcases h.2 with h0 | ⟨g, cap, cur, rfl, hg, hh, r⟩
  · exact .inl h0
  · exact .inr ⟨g, cap, cur, rfl, hg, (World.putObj_heap_other (by omega)).trans hh, r⟩
theorem OwnS.nil (W : World) (B : Nat) : OwnS W B (.slice none 0 0) [] := ⟨rfl, .inl ⟨rfl, rfl⟩⟩
theorem info_strG : (Tryd.prog.info? 9).map (fun i => (i.zero, i.size, i.bytes)) = some (some (.string ⟨#[]⟩), 1, 16) := by kernel_rfl
/-- One string is hung on. -/
theorem app_str {W : World} {B : Nat} {v : Value} {L : List ByteArray} {s : ByteArray} {b c : Nat} (h : OwnS W B v L) (hs : W.cell? ⟨b, 0, none⟩ = some (.string s)) (hl : L.length ≤ 1000) (hB : B ≤ W.heap.size) (ty : TypeId) :
    ∃ v' w', (Builtin.append_ #[41, 41] ty #[v, .slice (some ⟨b, 0, none⟩) 1 c]).run Tryd.prog W = .ok v' w' ∧ OwnS w' B v' (L ++ [s]) ∧ Below B W w' := by
  obtain ⟨i0, hinf, hz0, hz1, hz2⟩ := info_parts info_strG
  obtain ⟨v', w', hrun, h1, h2, -⟩ := run_append_own (P := Tryd.prog) W B 41 ty 9 i0 _ 1 16 Tryd.underlying41 hinf hz0 hz1 hz2 (by rfl) (by decide) v L.length (L.map Value.string) h ⟨b, 0, none⟩ 1 c [.string s] (by rfl)
    (fun j u hu => by
      cases j with
      | zero => simp at hu; subst hu; exact hs
      | succ j => simp at hu) (by simp [Value.oneCell']) (by unfold maxLen; omega) (by omega) hB
  refine ⟨v', w', hrun, ?_, (Below.refl _ _).grown h2 hB (fun k e => (h.lt k e).1)⟩
  unfold OwnS
  rw [List.length_append, List.map_append]
  exact h1
theorem one_str (w : World) (s : ByteArray) : ∀ j u, ([.string s] : List Value)[j]? = some u → (w.alloc (.cells #[.string s] 9)).cell? ((⟨w.heap.size, 0, none⟩ : Addr).add j) = some u := by
  intro j u hu
  cases j with
  | zero => simp at hu; subst hu; simp [Addr.add]
  | succ j => simp at hu
theorem own_str1 {W : World} {B : Nat} {v : Value} {L : List ByteArray} {s : ByteArray} (h : W.ownsRow B 9 1 v (L.length + 1) (L.map Value.string ++ [.string s])) : OwnS W B v (L ++ [s]) := by
  unfold OwnS
  rw [List.length_append, List.map_append]
  exact h
theorem ret_same {a b : Value} (h : a = b) : Ending.returned a = .returned b := by rw [h]
end Go.Proofs.YtmpajkfbiocmiaaDoor
namespace Go.Proofs.YtmpajkfbiocmiaaDoor
open Go.RowKit Go.Shelf
attribute [local go_sem] Oper.semAt_some

theorem ret_strG {a b : ByteArray} (h : a = b) : Ending.returned (.string a) = .returned (.string b) := by rw [h]
theorem gput_any (r : Int) (w : World) : Calls Tryd.prog 16 #[.int .i32 r] w fun e w' => e = .returned (.string (putS r)) ∧ w = w' := by
  have hv : Utf8.valid r = Lib.validRune r := by
    rw [Bool.eq_iff_iff]
    simp only [Utf8.valid, Lib.validRune, Bool.or_eq_true, Bool.and_eq_true, decide_eq_true_eq]
    omega
  cases h : Lib.validRune r
  · have H := hide h
    have HP := hide (show putS r = ⟨#[]⟩ by rw [putS, hv, h]; rfl)
    clear h hv
    go_enter Tryd.func16, Tryd.ntmps16
    go_wp2_with (go_at_call 29; refine (Tryd.utf8_ValidRune r _).mono ?_; rw [H.out]; rintro e w1 ⟨rfl, rfl⟩)
    go_ret
    exact ⟨ret_strG HP.out.symm, rfl⟩
  · have H := hide h
    have HP := hide (show putS r = Utf8.encode r by rw [putS, hv, h]; rfl)
    clear h hv
    go_enter Tryd.func16, Tryd.ntmps16
    go_wp2_with (go_at_call 29; refine (Tryd.utf8_ValidRune r _).mono ?_; rw [H.out]; rintro e w1 ⟨rfl, rfl⟩)
    go_ret
    exact ⟨ret_strG HP.out.symm, rfl⟩
theorem bld_below {W W' : World} {B b : Nat} {T e : TypeId} {bs : List Value} (h : Lib.IsBuilder T e B b bs W) (hb : Below W.heap.size W W') : Lib.IsBuilder T e B b bs W' := by
  have key : ∀ p, Lib.BuilderAt T e B b p bs W → Lib.BuilderAt T e B b p bs W' := by
    rintro p ⟨h0, v, hk, ⟨hl, hown⟩, hne⟩
    refine ⟨h0, v, (hb.block b (Array.getElem?_eq_some_iff.1 hk).1).trans hk, ⟨hl, ?_⟩, hne⟩
    rcases hown with h1 | ⟨g, cap, cur, rfl, hg, hh, q⟩
    · exact .inl h1
    · exact .inr ⟨g, cap, cur, rfl, hg, (hb.block g (Array.getElem?_eq_some_iff.1 hh).1).trans hh, q⟩
  rcases h with h | h
  · exact .inl (key _ h)
  · exact .inr (key _ h)
theorem ChI.under {w0 W W' : World} {B D : Nat} {o : Obj} {v : Value} {c : Int} (h : ChI w0 B D o v c W) (hb : Below (D + 1 + 1 + 1 + 1) W W') : ChI w0 B D o v c W' := by
  obtain ⟨h0, h1, h2, h3, h4, h5⟩ := h
  exact ⟨h0, (hb.block _ (by omega)).trans h1, (hb.block _ (by omega)).trans h2, (hb.block _ (by omega)).trans h3, (hb.block _ (by omega)).trans h4, h5.trans (hb.mono (by omega))⟩
/-- One string is hung on: as one step of a region that draws its order, in a round of a range over a function. -/
theorem stepIn_app {l n : Nat} {ops : Array Oper} {op : Oper} {a : Act} {W w' : World} {K : Act → World → Prop} {Q : Exit → Act → World → Prop} {X : Prop} (hgd : op.guard = none) (s x : Operand)
    (hop : op.op = Op.call { callee := Callee.builtin Builtin.append, args := #[s, x], argTypes := #[41, 41] }) (v xv v' : Value) (hs : a.eval s = v) (hx : a.eval x = xv)
    (hrun : (Builtin.append_ #[41, 41] op.type #[v, xv]).run Tryd.prog W = .ok v' w') (hK : K (a.put op.dst v') w') :
    if Region.wanted op (yielded ops a.tmps) = true then Oper.wpIn (Fence.wide.inRound l) n Tryd.prog op a W K Q else X := by
  have hw : Region.wanted op (yielded ops a.tmps) = true := by simp [Region.wanted, hgd]
  rw [if_pos hw]
  unfold Oper.wpIn
  refine ⟨fun _ _ => trivial, ?_⟩
  rw [Oper.semAt_eq _ _ _ (fun c h => by rw [hop] at h; cases h)]
  simp [execOp, hop, resolve, invoke, builtin, hs, hx, hrun, Result.andThen]
  exact hK
theorem bytes_app (l m : List UInt8) : Lib.byteCells l ++ Lib.byteCells m = Lib.byteCells (l ++ m) := by simp [Lib.byteCells]
set_option maxRecDepth 100000 in
set_option maxHeartbeats 4000000 in
theorem rows_any (f : Fr) (v : Value) (w : World) (h : FrAt w v f) (hT : WTabs w) :
    Calls Tryd.prog 9 #[v] w fun e w' => ∃ v', e = .returned v' ∧ OwnS w' w.heap.size v' (rowsF f) ∧ Below w.heap.size w w' := by
  obtain ⟨A, cap, rfl, hc, hcap, hcl⟩ := h
  obtain ⟨rows, cols, cs, row, col⟩ := f
  obtain ⟨n, hn⟩ : ∃ n, cs.length = n := ⟨_, rfl⟩
  have HFR := hide (show ∀ W, Below w.heap.size w W → FrAt W (frV ⟨rows, cols, cs, row, col⟩ A n cap) ⟨rows, cols, cs, row, col⟩ from fun W hW => ⟨A, cap, by dsimp only; rw [hn], hc, hcap, hcl.below hW⟩)
  have HN := hide hn
  have HCL := hide hcl
  have HT := hide hT
  unfold frV at HFR ⊢
  dsimp only at hc HFR HCL ⊢
  rw [hn] at hc ⊢
  clear hcl hn hT
  have HK := hide (Blk.new w 31 (frCells rows cols (.slice A n cap) row col))
  have HB0 := hide (show Below w.heap.size w (w.alloc (.cells (frCells rows cols (.slice A n cap) row col).toArray 31)) from (Below.refl _ _).alloc (Nat.le_refl _) _)
  refine (callsIn_wide (n := 9)).1 ?_
  refine callsIn_of_wp_marks Tryd.func9 rfl trivial ?_
  simp only [Tryd.ntmps9, List.size_toArray, List.length_cons, List.length_nil, Nat.reduceAdd, Nat.reduceSub, Array.replicate_succ, Array.replicate_zero, List.push_toArray, List.append_toArray, List.nil_append, List.cons_append]
  by_cases hv : validF ⟨rows, cols, cs, row, col⟩ = true
  case neg =>
    have hv0 : validF ⟨rows, cols, cs, row, col⟩ = false := by simpa using hv
    have HV := hide hv0
    have HP := hide (rowsF_bad hv0)
    clear hv hv0
    gi_wp2_with (first | (refine ⟨trivial, ?_⟩; gi_at_call 8; refine (callsIn_wide.2 (valid_is ⟨rows, cols, cs, row, col⟩ _ HV.out _ _ (HFR.out _ HB0.out) (HT.out.below HB0.out))).mono ?_; rintro e w1 ⟨rfl, hb1⟩; have HB1 := hide (HB0.out.trans (hb1.mono HB0.out.size)); clear hb1) | fail)
    exact ⟨.slice none 0 0, by simp [results, Tryd.results9, go_sem], _, rfl, by rw [HP.out]; exact OwnS.nil _ _, HB1.out⟩
  have HV := hide hv
  have HPF := hide (rowsF_ok hv)
  obtain ⟨R, C, hR, hC, h1, h2, h3, h4, hL, -⟩ := valid_facts hv
  dsimp only at hR hC hL
  subst hR hC
  dsimp only at HPF
  rw [Int.toNat_natCast, Int.toNat_natCast] at HPF
  obtain ⟨b, o, hA, -⟩ := ClsAt.at (j := 0) HCL.out (List.getElem?_eq_getElem (show 0 < cs.length by rw [hL]; have := (size_small h1 h2 h3 h4).1; omega))
  subst hA
  have hnRC : n = R * C := by rw [← HN.out]; exact hL
  have HNRC := hide hnRC
  obtain ⟨-, hs2⟩ := size_small h1 h2 h3 h4
  rw [← hnRC] at hs2
  obtain ⟨i0, hinf, hz0, hz1, hz2⟩ := info_parts info_strG
  clear hv hL hnRC
  gi_wp2_with (first
    | (refine ⟨trivial, ?_⟩; gi_at_call 8; refine (callsIn_wide.2 (valid_is ⟨R, C, cs, row, col⟩ _ HV.out _ _ (HFR.out _ HB0.out) (HT.out.below HB0.out))).mono ?_; rintro e w1 ⟨rfl, hb1⟩; have HK1 := hide (HK.out.below hb1); have HB1 := hide (HB0.out.trans (hb1.mono HB0.out.size)); have hz9 := HK1.out.lt; have HK2 := hide (HK1.out.alloc (.cells #[.slice none 0 0] 41)); obtain ⟨k0, k1, k2, k3, k4, kf⟩ := fr_reads HK2.out; clear hb1)
    | (refine ⟨trivial, ?_⟩; gi_at_call 13; refine (callsIn_wide.2 (chunk_any _ _ _ _ (by omega) _)).mono ?_; rintro e w' ⟨rfl, rfl⟩)
    | fail)
  rename_i K hK
  obtain ⟨W2, hW2⟩ : ∃ W2, W2 = w1.alloc (.cells #[.slice none 0 0] 41) := ⟨_, rfl⟩
  have hsz2 : W2.heap.size = w1.heap.size + 1 := by rw [hW2]; simp
  have HB2 := hide (show Below w.heap.size w W2 by rw [hW2]; exact HB1.out.alloc HB1.out.size _)
  have HBX := hide (show Boxed W2 w1.heap.size 41 (.slice none 0 0) by rw [hW2]; exact Boxed.new w1 41 (.slice none 0 0))
  rw [← hW2]
  clear hW2 HB0 k0 k1 k2 k3 k4 kf HK HK1 HK2
  refine range_open rfl (by omega) (gf := 25) (lb := #[.pointer (some ⟨w1.heap.size + 1, 0, none⟩), .pointer (some ⟨w1.heap.size + 1 + 1, 0, none⟩)]) rfl trivial (enters_of Tryd.func25 (by kernel_rfl) rfl) ?_
  intro fn rec hfn hrec
  have HREC := hide hrec
  have HP := hide (show ∀ st pe, (rec st pe).pending = pe ∧ (rec st pe).state = st from fun st pe => by rw [hrec]; exact ⟨rfl, rfl⟩)
  have HRR := hide (show ∀ st pe st' pe', { rec st pe with state := st', pending := pe' } = rec st' pe' from fun st pe st' pe' => by rw [hrec])
  clear hrec
  refine callsIn_of_wp Tryd.func25 rfl trivial ?_
  simp only [Tryd.ntmps25, List.size_toArray, List.length_cons, List.length_nil, Nat.reduceAdd, Nat.reduceSub, Array.replicate_succ, Array.replicate_zero, List.push_toArray, List.append_toArray, List.nil_append, List.cons_append]
  have HI0 := hide (ChI.start W2 (.slice (some ⟨b, o, none⟩) n cap) C (.loop (rec .ready none)) w w.heap.size HB2.out (by omega))
  rw [hsz2] at HI0
  have HBX0 := hide (show Boxed ((((W2.alloc (.cells #[.slice (some ⟨b, o, none⟩) n cap] 29)).alloc (.cells #[.int .i64 C] 3)).alloc (.deferred (some []))).alloc (.loop (rec .ready none))) w1.heap.size 41 (.slice none 0 0) from (((HBX.out.alloc _).alloc _).alloc _).alloc _)
  gi_wp2
  gi_loopw [4] (fun iv wr => ∃ (k x : Nat) (A : Option Addr) (c : Nat), iv = .int .i64 x ∧ Hid (x = k * C) ∧ k ≤ R ∧ x ≤ n ∧ c ≤ maxLen ∧ Hid (ChI w w.heap.size (w1.heap.size + 1) (.loop (rec .ready none)) (.slice (some ⟨b, o, none⟩) n cap) C wr) ∧ Hid (Boxed wr w1.heap.size 41 (.slice A k c)) ∧ Hid (OwnS wr (w1.heap.size + 1 + 1 + 1 + 1 + 1) (.slice A k c) (rowsTo cs C k))) (fun iv _ => n - (intOf iv).toNat)
  case atStart => exact ⟨0, 0, none, 0, rfl, hide (by simp), by omega, by omega, by unfold maxLen; omega, HI0, HBX0, hide (OwnS.nil _ _)⟩
  case round =>
    clear HI0 HBX0
    obtain ⟨k, x, A, c, rfl, HX, hk, hx, hcm, HI, HBo, HOS⟩ := hrel
    have hcs := HI.out.2.2.2.1.cell
    have hcz := HI.out.2.2.2.2.1.cell
    by_cases hlt : k < R
    · have hxC : x + C ≤ n := by
        have h1 : (k + 1) * C ≤ R * C := Nat.mul_le_mul_right _ hlt
        have h2 := HX.out
        have h3 := HNRC.out
        rw [Nat.add_mul, Nat.one_mul] at h1
        omega
      have hlt2 : x < n := by omega
      clear hk hx
      have hmin : min (C : Int) ((n - x : Nat) : Int) = (C : Int) := by omega
      have hto : ((x : Int) + (C : Int)).toNat - x = C := by omega
      gi_wp2
      gi_region
      have hI2 := HI.out.drewN 1
      have hB2 := HBo.out
      have hO2 := HOS.out
      obtain ⟨W0, hW0⟩ : ∃ W0, wr.drew = W0 := ⟨_, rfl⟩
      rw [show wr.drewN 1 = W0 from hW0] at hI2
      replace hB2 : Boxed W0 w1.heap.size 41 (.slice A k c) := by rw [← hW0]; exact hB2
      replace hO2 : OwnS W0 (w1.heap.size + 1 + 1 + 1 + 1 + 1) (.slice A k c) (rowsTo cs C k) := by rw [← hW0]; exact hO2
      rw [hW0]
      have hcs := hI2.2.2.2.1.cell
      have hcz := hI2.2.2.2.2.1.cell
      have HI2 := hide hI2
      have HO2 := hide hO2
      have hy := fun u => run_yield (P := Tryd.prog) (args := #[u]) hI2.2.1 (by rw [HREC.out]; rfl)
      clear hI2 hW0 hO2
      gi_wp2
      clear hmin hto
      have HSL := hide (show ∀ W, Below w.heap.size w W → ClsAt W (some ⟨b, o + x * 6, none⟩) (rowL cs C k) from fun W hW => by
        have := (show ClsAt W _ _ from HCL.out.below hW).sub (k * C) C
        rw [← HX.out] at this
        unfold rowL
        rw [← HX.out]
        exact this)
      have HSLN := hide (show (rowL cs C k).length = C from rowL_len (rows := R) (by rw [HN.out]; exact HNRC.out) hlt)
      refine round_at (a1 := ?_) HI2.out.2.1 (HP.out _ _).2 (by rw [HREC.out]; exact hfn) ?_ ?_
      rotate_left
      · intro K9 hK9
        rw [HREC.out]
        gi_wp2
        exact hK9
      · rw [rec_state HRR.out HP.out]
        have hI3 := HI2.out.put rfl (.loop (rec .busy none))
        have hB3 : Boxed (W0.putObj (w1.heap.size + 1 + 1 + 1 + 1) (.loop (rec .busy none))) w1.heap.size 41 (.slice A k c) := putObj_box hB2 HI2.out.2.1 rfl
        have hO3 : OwnS (W0.putObj (w1.heap.size + 1 + 1 + 1 + 1) (.loop (rec .busy none))) (w1.heap.size + 1 + 1 + 1 + 1 + 1) (.slice A k c) (rowsTo cs C k) := HO2.out.putObj (Nat.lt_succ_self _) _
        obtain ⟨WB, hWB⟩ : ∃ WB, W0.putObj (w1.heap.size + 1 + 1 + 1 + 1) (.loop (rec .busy none)) = WB := ⟨_, rfl⟩
        rw [hWB] at hI3 hB3 hO3 ⊢
        have HI3 := hide hI3
        have HB3 := hide hB3
        have HO3 := hide hO3
        clear hI3 hy hWB hB3 hO3
        rw [HREC.out]
        gi_wp2
        have hFB := Lib.fresh_isBuilder 55 5 WB
        have HBD0 := hide (show Lib.IsBuilder 55 5 WB.heap.size WB.heap.size (Lib.byteCells (shB ((rowL cs C k).take 0))) (WB.alloc (.cells #[.pointer none, .slice none 0 0] 55)) from hFB)
        have HBB0 := hide (show Below WB.heap.size WB (WB.alloc (.cells #[.pointer none, .slice none 0 0] 55)) from (Below.refl _ _).alloc (Nat.le_refl _) _)
        clear hFB hcs hcz
        gi_loopw [19] (fun iv wr => ∃ j : Nat, iv = .int .i64 j ∧ j ≤ C ∧ Hid (Lib.IsBuilder 55 5 WB.heap.size WB.heap.size (Lib.byteCells (shB ((rowL cs C k).take j))) wr) ∧ Hid (Below WB.heap.size WB wr)) (fun iv _ => C - (intOf iv).toNat)
        case atStart => exact ⟨0, rfl, by omega, HBD0, HBB0⟩
        case round =>
          clear HBD0 HBB0
          obtain ⟨j, rfl, hj, HBD, HBQ⟩ := hrel
          by_cases hjC : j < C
          · obtain ⟨X, hX⟩ : ∃ X, (rowL cs C k)[j]? = some X := ⟨_, List.getElem?_eq_getElem (by rw [HSLN.out]; exact hjC)⟩
            have HST := hide (shB_step hX)
            have HLE := hide (show (shB ((rowL cs C k).take j)).length ≤ 4 * j by have := shB_le ((rowL cs C k).take j); rw [List.length_take] at this; omega)
            have hbq : Below w.heap.size w wr := HI3.out.2.2.2.2.2.trans (HBQ.out.mono (by have := HI3.out.2.2.2.2.2.size; exact this))
            obtain ⟨x0, x1, x2, x3, x4, x5⟩ := (HSL.out wr hbq).get hX
            clear hX hbq
            obtain ⟨xr, xw, xf, xb, xu, xi⟩ := X
            dsimp only at x0 x1 x2 x3 x4 x5 HST
            have HAL := hide ((Below.refl wr.heap.size wr).alloc (Nat.le_refl _) (.cells #[.int .i32 xr, .int .i64 xw, .int .i64 xf, .bool xb, .bool xu, .bool xi] 39))
            have HBD1 := hide (bld_below HBD.out HAL.out)
            have HBQ1 := hide (HBQ.out.trans (HAL.out.mono HBQ.out.size))
            by_cases hw0 : 0 < xw
            · rw [if_pos hw0] at HST
              have hpl := putS_le xr
              have HPUT := hide (fun W => gput_any xr W)
              obtain ⟨t, ht⟩ : ∃ t, putS xr = t := ⟨_, rfl⟩
              rw [ht] at HST hpl HPUT
              clear ht
              gi_wp2_with (first
                | (refine ⟨trivial, ?_⟩; gi_at_call 16; refine (CallsIn.inRound _ (callsIn_wide.2 (HPUT.out _))).mono ?_; rintro e w' ⟨rfl, rfl⟩)
                | (refine ⟨trivial, ?_⟩; gi_at_call 15; refine (CallsIn.inRound _ (callsIn_wide.2 (write_any WB.heap.size WB.heap.size _ t _ HBD1.out (by rw [Lib.byteCells_length]; have := HLE.out; omega) HBQ1.out.size))).mono ?_; rintro e w3 ⟨rfl, hbd, hb3⟩; have HBD3 := hide hbd; have HBQ3 := hide (HBQ1.out.trans hb3); clear hbd hb3)
                | fail)
              go_roundw
              case rel => exact ⟨j + 1, by go_num, by omega, hide (.inr (by rw [HST.out, ← bytes_app]; exact HBD3.out)), HBQ3⟩
              case measure => simp [intOf]; omega
            · rw [if_neg hw0, List.append_nil] at HST
              gi_wp2
              go_roundw
              case rel => exact ⟨j + 1, by go_num, by omega, hide (by rw [HST.out]; exact HBD1.out), HBQ1⟩
              case measure => simp [intOf]; omega
          · obtain rfl : C = j := by omega
            have HBD2 := hide (show Lib.IsBuilder 55 5 WB.heap.size WB.heap.size (Lib.byteCells (shB (rowL cs C k))) wr by have := HBD.out; rw [List.take_of_length_le (by rw [HSLN.out]; exact Nat.le_refl _)] at this; exact this)
            have hI4 := HI3.out.below HBQ.out
            have hB4 : Boxed wr w1.heap.size 41 (.slice A k c) := (HBQ.out.block _ HB3.out.lt).trans HB3.out
            have HO4 := hide (HO3.out.below HBQ.out)
            have hcB := hB4.cell
            have hfB := hB4.frozen
            have HI4 := hide hI4
            have HB4 := hide hB4
            clear hI4 hB4 HBD
            gi_wp2
            have HROW := hide (show (⟨(shB (rowL cs C k)).toArray⟩ : ByteArray) = rowS cs C k from rfl)
            refine wpIn_region_any (by kernel_rfl) ?_
            change wpAnyIn _ _ _ _ _ _ _ _ _ (World.drew _)
            refine wpAnyIn_ready (rs := [0, 1]) (by kernel_rfl) (by simp) ?_
            refine AllReadyIn.cons rfl (fun K' hK' => ?_) (AllReadyIn.cons rfl (fun K' hK' => ?_) AllReadyIn.nil)
            · go_simp
              refine hK' _ _ ?_
              clear hK' K'
              refine wpAnyIn_ready (rs := [1]) (by kernel_rfl) (by simp) ?_
              refine AllReadyIn.cons rfl (fun K' hK' => ?_) AllReadyIn.nil
              go_simp
              gi_wp2_with (first | (refine ⟨trivial, ?_⟩; gi_at_call 17; refine (CallsIn.inRound _ (callsIn_wide.2 (Tryd.Builder_String_any WB.heap.size WB.heap.size (shB (rowL cs C k)) _ (bld_below HBD2.out (Below.refl _ _).drew) HBQ.out.size))).mono ?_; rintro e w5 ⟨rfl, hb5⟩; have HBQ5 := hide (HBQ.out.drew.trans hb5); have hB5 : Boxed w5 w1.heap.size 41 (.slice A k c) := (HBQ5.out.block _ HB3.out.lt).trans HB3.out; have hcB5 := hB5.cell; have HB5 := hide hB5; clear hb5 hB5) | fail)
              refine wpAnyIn_ready (rs := [2]) (by kernel_rfl) (by simp) ?_
              refine AllReadyIn.cons rfl (fun K' hK' => ?_) AllReadyIn.nil
              go_simp
              refine hK' _ _ ?_
              clear hK' K'
              have hbs : w1.heap.size + 1 + 1 + 1 + 1 + 1 ≤ WB.heap.size := (Array.getElem?_eq_some_iff.1 HI3.out.2.1).1
              have HS6 := hide ((HO3.out.below HBQ5.out).below ((Below.refl _ _).alloc (Nat.le_refl _) (.cells #[.string ⟨(shB (rowL cs C k)).toArray⟩] 9)))
              obtain ⟨v7, w7, hrun, ho7, hb7⟩ := app_str (b := w5.heap.size) (c := 1) (s := rowS cs C k) HS6.out (by simp [rowS]) (by rw [rowsTo_len]; omega) (by have := HBQ5.out.size; simp; omega) 41
              obtain ⟨A7, c7, rfl, hc7, hm7⟩ := ho7.formL (n := k + 1) (by rw [List.length_append, rowsTo_len]; rfl)
              have hI7 := ((HI3.out.below HBQ5.out).below ((Below.refl _ _).alloc (Nat.le_refl _) (.cells #[.string ⟨(shB (rowL cs C k)).toArray⟩] 9))).under hb7
              have hB7 : Boxed w7 w1.heap.size 41 (.slice A k c) := (hb7.block _ (by omega)).trans (HB5.out.alloc _)
              have hcB7 := hB7.cell
              have hfB7 := hB7.frozen
              have HI7 := hide hI7
              have HB7 := hide hB7
              have HO7 := hide ho7
              clear hI7 hB7 ho7 hb7
              refine wpAnyIn_ready (rs := [3]) (by kernel_rfl) (by simp) ?_
              refine AllReadyIn.cons rfl (fun K' hK' => ?_) AllReadyIn.nil
              refine stepIn_app rfl (.tmp 31) (.tmp 33) rfl _ _ _ (by rfl) (by rfl) hrun ?_
              refine hK' _ _ ?_
              clear hK' K' hrun
              refine wpAnyIn_ready (rs := [4]) (by kernel_rfl) (by simp) ?_
              refine AllReadyIn.cons rfl (fun K' hK' => ?_) AllReadyIn.nil
              go_simp
              refine hK' _ _ ?_
              clear hK' K'
              refine wpAnyIn_done (by kernel_rfl) ?_ _
              have hsz9 := HB1.out.size
              have hI8 := HI7.out.set (g := w1.heap.size) hsz9 (Nat.lt_succ_self _) 0 (.slice A7 (k + 1) c7)
              have hB8 : Boxed (w7.setCell ⟨w1.heap.size, 0, none⟩ (.slice A7 (k + 1) c7)) w1.heap.size 41 (.slice A7 (k + 1) c7) := HB7.out.set _
              have hO8 := HO7.out.low (p := ⟨w1.heap.size, 0, none⟩) (show w1.heap.size < w1.heap.size + 1 + 1 + 1 + 1 + 1 by omega) (.slice A7 (k + 1) c7)
              refine ⟨_, _, round_end HRR.out hI8.2.1 none, ?_⟩
              have hI9 := hI8.put rfl (.loop (rec .ready none))
              have hB9 := putObj_box (o' := .loop (rec .ready none)) hB8 hI8.2.1 rfl
              have hO9 := hO8.putObj (Nat.lt_succ_self _) (.loop (rec .ready none))
              simp only [Option.isNone_none, if_true]
              obtain ⟨WF, hWF⟩ : ∃ WF, (w7.setCell ⟨w1.heap.size, 0, none⟩ (.slice A7 (k + 1) c7)).putObj (w1.heap.size + 1 + 1 + 1 + 1) (.loop (rec .ready none)) = WF := ⟨_, rfl⟩
              rw [hWF] at hI9 hB9 hO9 ⊢
              have hcz2 := hI9.2.2.2.2.1.cell
              have HI9 := hide hI9
              have HB9 := hide hB9
              have HO9 := hide hO9
              clear hI8 hB8 hO8 hWF hI9 hB9 hO9
              gi_wp2
              go_roundw
              case rel => exact ⟨k + 1, x + C, A7, c7, by go_num, hide (by have := HX.out; rw [Nat.add_mul, Nat.one_mul]; omega), by omega, by omega, hm7, HI9, HB9, hide (by rw [rowsTo_step]; exact HO9.out)⟩
              case measure => simp [intOf]; omega
            · go_simp
              gi_wp2_with (first | (refine ⟨trivial, ?_⟩; gi_at_call 17; refine (CallsIn.inRound _ (callsIn_wide.2 (Tryd.Builder_String_any WB.heap.size WB.heap.size (shB (rowL cs C k)) _ (bld_below HBD2.out (Below.refl _ _).drew) HBQ.out.size))).mono ?_; rintro e w5 ⟨rfl, hb5⟩; have HBQ5 := hide (HBQ.out.drew.trans hb5); have hB5 : Boxed w5 w1.heap.size 41 (.slice A k c) := (HBQ5.out.block _ HB3.out.lt).trans HB3.out; have hcB5 := hB5.cell; have HB5 := hide hB5; clear hb5 hB5) | fail)
              refine wpAnyIn_ready (rs := [0, 2]) (by kernel_rfl) (by simp) ?_
              refine AllReadyIn.cons rfl (fun K' hK' => ?_) (AllReadyIn.cons rfl (fun K' hK' => ?_) AllReadyIn.nil)
              · go_simp
                refine hK' _ _ ?_
                clear hK' K'
                refine wpAnyIn_ready (rs := [2]) (by kernel_rfl) (by simp) ?_
                refine AllReadyIn.cons rfl (fun K' hK' => ?_) AllReadyIn.nil
                go_simp
                refine hK' _ _ ?_
                clear hK' K'
                have hbs : w1.heap.size + 1 + 1 + 1 + 1 + 1 ≤ WB.heap.size := (Array.getElem?_eq_some_iff.1 HI3.out.2.1).1
                have HS6 := hide ((HO3.out.below HBQ5.out).below ((Below.refl _ _).alloc (Nat.le_refl _) (.cells #[.string ⟨(shB (rowL cs C k)).toArray⟩] 9)))
                obtain ⟨v7, w7, hrun, ho7, hb7⟩ := app_str (b := w5.heap.size) (c := 1) (s := rowS cs C k) HS6.out (by simp [rowS]) (by rw [rowsTo_len]; omega) (by have := HBQ5.out.size; simp; omega) 41
                obtain ⟨A7, c7, rfl, hc7, hm7⟩ := ho7.formL (n := k + 1) (by rw [List.length_append, rowsTo_len]; rfl)
                have hI7 := ((HI3.out.below HBQ5.out).below ((Below.refl _ _).alloc (Nat.le_refl _) (.cells #[.string ⟨(shB (rowL cs C k)).toArray⟩] 9))).under hb7
                have hB7 : Boxed w7 w1.heap.size 41 (.slice A k c) := (hb7.block _ (by omega)).trans (HB5.out.alloc _)
                have hcB7 := hB7.cell
                have hfB7 := hB7.frozen
                have HI7 := hide hI7
                have HB7 := hide hB7
                have HO7 := hide ho7
                clear hI7 hB7 ho7 hb7
                refine wpAnyIn_ready (rs := [3]) (by kernel_rfl) (by simp) ?_
                refine AllReadyIn.cons rfl (fun K' hK' => ?_) AllReadyIn.nil
                refine stepIn_app rfl (.tmp 31) (.tmp 33) rfl _ _ _ (by rfl) (by rfl) hrun ?_
                refine hK' _ _ ?_
                clear hK' K' hrun
                refine wpAnyIn_ready (rs := [4]) (by kernel_rfl) (by simp) ?_
                refine AllReadyIn.cons rfl (fun K' hK' => ?_) AllReadyIn.nil
                go_simp
                refine hK' _ _ ?_
                clear hK' K'
                refine wpAnyIn_done (by kernel_rfl) ?_ _
                have hsz9 := HB1.out.size
                have hI8 := HI7.out.set (g := w1.heap.size) hsz9 (Nat.lt_succ_self _) 0 (.slice A7 (k + 1) c7)
                have hB8 : Boxed (w7.setCell ⟨w1.heap.size, 0, none⟩ (.slice A7 (k + 1) c7)) w1.heap.size 41 (.slice A7 (k + 1) c7) := HB7.out.set _
                have hO8 := HO7.out.low (p := ⟨w1.heap.size, 0, none⟩) (show w1.heap.size < w1.heap.size + 1 + 1 + 1 + 1 + 1 by omega) (.slice A7 (k + 1) c7)
                refine ⟨_, _, round_end HRR.out hI8.2.1 none, ?_⟩
                have hI9 := hI8.put rfl (.loop (rec .ready none))
                have hB9 := putObj_box (o' := .loop (rec .ready none)) hB8 hI8.2.1 rfl
                have hO9 := hO8.putObj (Nat.lt_succ_self _) (.loop (rec .ready none))
                simp only [Option.isNone_none, if_true]
                obtain ⟨WF, hWF⟩ : ∃ WF, (w7.setCell ⟨w1.heap.size, 0, none⟩ (.slice A7 (k + 1) c7)).putObj (w1.heap.size + 1 + 1 + 1 + 1) (.loop (rec .ready none)) = WF := ⟨_, rfl⟩
                rw [hWF] at hI9 hB9 hO9 ⊢
                have hcz2 := hI9.2.2.2.2.1.cell
                have HI9 := hide hI9
                have HB9 := hide hB9
                have HO9 := hide hO9
                clear hI8 hB8 hO8 hWF hI9 hB9 hO9
                gi_wp2
                go_roundw
                case rel => exact ⟨k + 1, x + C, A7, c7, by go_num, hide (by have := HX.out; rw [Nat.add_mul, Nat.one_mul]; omega), by omega, by omega, hm7, HI9, HB9, hide (by rw [rowsTo_step]; exact HO9.out)⟩
                case measure => simp [intOf]; omega
              · go_simp
                refine hK' _ _ ?_
                clear hK' K'
                have hcB6 := (HB5.out.alloc (.cells #[.string ⟨(shB (rowL cs C k)).toArray⟩] 9)).cell
                refine wpAnyIn_ready (rs := [0]) (by kernel_rfl) (by simp) ?_
                refine AllReadyIn.cons rfl (fun K' hK' => ?_) AllReadyIn.nil
                go_simp
                refine hK' _ _ ?_
                clear hK' K'
                have hbs : w1.heap.size + 1 + 1 + 1 + 1 + 1 ≤ WB.heap.size := (Array.getElem?_eq_some_iff.1 HI3.out.2.1).1
                have HS6 := hide ((HO3.out.below HBQ5.out).below ((Below.refl _ _).alloc (Nat.le_refl _) (.cells #[.string ⟨(shB (rowL cs C k)).toArray⟩] 9)))
                obtain ⟨v7, w7, hrun, ho7, hb7⟩ := app_str (b := w5.heap.size) (c := 1) (s := rowS cs C k) HS6.out (by simp [rowS]) (by rw [rowsTo_len]; omega) (by have := HBQ5.out.size; simp; omega) 41
                obtain ⟨A7, c7, rfl, hc7, hm7⟩ := ho7.formL (n := k + 1) (by rw [List.length_append, rowsTo_len]; rfl)
                have hI7 := ((HI3.out.below HBQ5.out).below ((Below.refl _ _).alloc (Nat.le_refl _) (.cells #[.string ⟨(shB (rowL cs C k)).toArray⟩] 9))).under hb7
                have hB7 : Boxed w7 w1.heap.size 41 (.slice A k c) := (hb7.block _ (by omega)).trans (HB5.out.alloc _)
                have hcB7 := hB7.cell
                have hfB7 := hB7.frozen
                have HI7 := hide hI7
                have HB7 := hide hB7
                have HO7 := hide ho7
                clear hI7 hB7 ho7 hb7
                refine wpAnyIn_ready (rs := [3]) (by kernel_rfl) (by simp) ?_
                refine AllReadyIn.cons rfl (fun K' hK' => ?_) AllReadyIn.nil
                refine stepIn_app rfl (.tmp 31) (.tmp 33) rfl _ _ _ (by rfl) (by rfl) hrun ?_
                refine hK' _ _ ?_
                clear hK' K' hrun
                refine wpAnyIn_ready (rs := [4]) (by kernel_rfl) (by simp) ?_
                refine AllReadyIn.cons rfl (fun K' hK' => ?_) AllReadyIn.nil
                go_simp
                refine hK' _ _ ?_
                clear hK' K'
                refine wpAnyIn_done (by kernel_rfl) ?_ _
                have hsz9 := HB1.out.size
                have hI8 := HI7.out.set (g := w1.heap.size) hsz9 (Nat.lt_succ_self _) 0 (.slice A7 (k + 1) c7)
                have hB8 : Boxed (w7.setCell ⟨w1.heap.size, 0, none⟩ (.slice A7 (k + 1) c7)) w1.heap.size 41 (.slice A7 (k + 1) c7) := HB7.out.set _
                have hO8 := HO7.out.low (p := ⟨w1.heap.size, 0, none⟩) (show w1.heap.size < w1.heap.size + 1 + 1 + 1 + 1 + 1 by omega) (.slice A7 (k + 1) c7)
                refine ⟨_, _, round_end HRR.out hI8.2.1 none, ?_⟩
                have hI9 := hI8.put rfl (.loop (rec .ready none))
                have hB9 := putObj_box (o' := .loop (rec .ready none)) hB8 hI8.2.1 rfl
                have hO9 := hO8.putObj (Nat.lt_succ_self _) (.loop (rec .ready none))
                simp only [Option.isNone_none, if_true]
                obtain ⟨WF, hWF⟩ : ∃ WF, (w7.setCell ⟨w1.heap.size, 0, none⟩ (.slice A7 (k + 1) c7)).putObj (w1.heap.size + 1 + 1 + 1 + 1) (.loop (rec .ready none)) = WF := ⟨_, rfl⟩
                rw [hWF] at hI9 hB9 hO9 ⊢
                have hcz2 := hI9.2.2.2.2.1.cell
                have HI9 := hide hI9
                have HB9 := hide hB9
                have HO9 := hide hO9
                clear hI8 hB8 hO8 hWF hI9 hB9 hO9
                gi_wp2
                go_roundw
                case rel => exact ⟨k + 1, x + C, A7, c7, by go_num, hide (by have := HX.out; rw [Nat.add_mul, Nat.one_mul]; omega), by omega, by omega, hm7, HI9, HB9, hide (by rw [rowsTo_step]; exact HO9.out)⟩
                case measure => simp [intOf]; omega
    · obtain rfl : k = R := by omega
      have hxn : x = n := by have := HX.out; have := HNRC.out; omega
      subst hxn
      gi_wp2
      go_end0
      obtain ⟨o', ho'⟩ := end_ex (P := Tryd.prog) (pe := none) HI.out.2.1 (by rw [(HP.out _ _).2]; simp) (HP.out _ _).1
      refine ⟨_, _, ho', ?_⟩
      have hE := HI.out.put rfl o'
      have hB5 := putObj_box (o' := o') HBo.out HI.out.2.1 rfl
      have hO5 := HOS.out.putObj (Nat.lt_succ_self _) o'
      clear ho'
      dsimp only
      refine hK _ _ ?_
      obtain ⟨WE, hWE⟩ : ∃ WE, wr.putObj (w1.heap.size + 1 + 1 + 1 + 1) o' = WE := ⟨_, rfl⟩
      rw [hWE] at hE hB5 hO5 ⊢
      clear hWE
      have hc1 := hB5.cell
      have HE := hide hE
      have HB5 := hide hB5
      have HO5 := hide hO5
      clear hE hB5 hO5
      gi_wp2
      refine ⟨by simp, .inl ⟨_, _, rfl, run_takeDeferred HE.out.2.2.1, ?_⟩⟩
      obtain ⟨r0, r1⟩ := HE.out.fin HB5.out (by omega)
      exact ⟨.slice A k c, by simp [results, Tryd.results9, go_sem], _, rfl, by rw [HPF.out]; exact (HO5.out.putObj (by omega) _).mono (by have := HB1.out.size; omega), r1⟩
end Go.Proofs.YtmpajkfbiocmiaaDoor
