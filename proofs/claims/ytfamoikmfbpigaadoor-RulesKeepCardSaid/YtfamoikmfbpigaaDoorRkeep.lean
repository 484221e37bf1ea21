/- The walk of limnerlaw13.RulesKeep. -/
import Derived.Test.YtfamoikmfbpigaaDoorRofs
import Derived.Test.YtfamoikmfbpigaaDoorRword
import Derived.Test.YtfamoikmfbpigaaDoorEparse
namespace Go.Proofs.YtfamoikmfbpigaaDoor
open Go.RowKit

def byK (x : Int) : List Value := [.int .u8 x]
theorem keep_len : ∀ m, m < 3 → 0 < (rowN m).length ∧ (rowN m).length ≤ 10 := by
  intro m hm
  match m, hm with
  | 0, _ => decide +kernel
  | 1, _ => decide +kernel
  | 2, _ => decide +kernel
def keepB (m j : Nat) : Bool := (parseP ⟨(ruleN m j).1.toArray⟩).2 == 0 && decide (ByteArray.size ⟨(ruleN m j).1.toArray⟩ ≤ 200) && (ruleN m j).2.1 != 0
theorem keep_all : ((List.range 3).all fun m => (List.range (rowN m).length).all fun j => keepB m j) = true := by decide +kernel
theorem keep_at {m j : Nat} (hm : m < 3) (hj : j < (rowN m).length) : (parseP ⟨(ruleN m j).1.toArray⟩).2 = 0 ∧ ByteArray.size ⟨(ruleN m j).1.toArray⟩ ≤ 200 ∧ (ruleN m j).2.1 ≠ 0 := by
  have h := keep_all
  rw [List.all_eq_true] at h
  have h1 := h m (List.mem_range.2 hm)
  rw [List.all_eq_true] at h1
  have h2 := h1 j (List.mem_range.2 hj)
  unfold keepB at h2
  simp only [Bool.and_eq_true, beq_iff_eq, decide_eq_true_eq, bne_iff_ne] at h2
  exact ⟨h2.1.1, h2.1.2, h2.2⟩
/-- A state that may be. -/
def StK (m : Nat) (d : Int) : Prop := m < 3 ∧ (m ≠ 2 → d = 0) ∧ (m = 2 → 1 ≤ d) ∧ 0 ≤ d ∧ d ≤ 16384
theorem aft_keep {m : Nat} {d : Int} (h : StK m d) (t : Int) : ∃ (m' : Nat) (d' : Int), aftS m d t = ((m' : Int), d') ∧ StK m' d' := by
  obtain ⟨h1, h2, h3, h4, h5⟩ := h
  unfold aftS
  split
  · exact ⟨m, d, rfl, h1, h2, h3, h4, h5⟩
  split
  · exact ⟨1, 0, rfl, by omega, fun _ => rfl, by omega, by omega, by omega⟩
  split
  · exact ⟨2, _, rfl, by omega, by omega, by omega, by omega, by omega⟩
  split
  · rename_i hh
    refine ⟨m, d - 1, rfl, h1, fun hm => ?_, by omega, by omega, by omega⟩
    have := h2 hm; omega
  · exact ⟨0, 0, rfl, by omega, fun _ => rfl, by omega, by omega, by omega⟩
def stL (m : Nat) (d : Int) : List Value := [.int .i64 (m : Int), .int .i64 d]
theorem st_set {W : World} {z : Nat} {m : Nat} {d : Int} (h : Blk W z 49 (stL m d)) (m' : Nat) (d' : Int) : Blk ((W.setCell ⟨z, 0, none⟩ (.int .i64 (m' : Int))).setCell ⟨z, 1, none⟩ (.int .i64 d')) z 49 (stL m' d') := (h.set 0 _).set 1 _
theorem wrap_idx {x : Int} {n : Nat} (h0 : 0 ≤ x) (hn : 0 < n) : ∃ j : Nat, j < n ∧ Int.tmod x (n : Int) = (j : Int) ∧ x % (n : Int) = (j : Int) := by
  refine ⟨(x % (n : Int)).toNat, ?_, ?_, ?_⟩
  · have := Int.emod_lt_of_pos x (show (0 : Int) < (n : Int) by omega)
    have := Int.emod_nonneg x (show (n : Int) ≠ 0 by omega)
    omega
  · rw [Int.tmod_eq_emod_of_nonneg h0]
    have := Int.emod_nonneg x (show (n : Int) ≠ 0 by omega)
    omega
  · have := Int.emod_nonneg x (show (n : Int) ≠ 0 by omega)
    omega
set_option maxHeartbeats 4000000 in
set_option maxRecDepth 100000 in
theorem lawKeep (r : Nat) (A : Option Addr) (cap : Nat) (l : List Int) (w : World) (hA : RowOf w 1 byK A l) (hl : ∀ x ∈ l, 0 ≤ x ∧ x ≤ 255) (hc : l.length ≤ cap) (hc2 : cap ≤ maxLen) (hT : RTab w) (hM : MTab w) (hS : SGr r w) :
    Calls Tryd.prog 8 #[.slice A l.length cap] w fun e w' => e = .returned (.bool true) ∧ Below w.heap.size w w' := by
  have HT := hide hT
  have HM := hide hM
  have HS := hide hS
  have HA := hide hA
  have HL := hide hl
  obtain ⟨n, hn⟩ : ∃ n, l.length = n := ⟨_, rfl⟩
  have HN := hide hn
  rw [hn] at hc ⊢
  have hcm := hc2
  unfold maxLen at hcm
  clear hT hM hS hA hl hn
  by_cases h200 : 200 < n
  · have q1 : (200 : Int) < (n : Int) := by omega
    go_enter Tryd.func8, Tryd.ntmps8
    go_wp2_with fail
    refine (worded_any _ HT.out HM.out).mono ?_; rintro e w1 ⟨rfl, hb1⟩
    go_wp2
    go_ret
    exact ⟨rfl, hb1⟩
  have q1 : ¬ (200 : Int) < (n : Int) := by omega
  have hb0 : Below w.heap.size w (w.alloc (.cells (stL 0 0).toArray 49)) := (Below.refl _ _).alloc (Nat.le_refl _) _
  obtain ⟨W0, hW0⟩ : ∃ W, w.alloc (.cells (stL 0 0).toArray 49) = W := ⟨_, rfl⟩
  have k0 : Blk W0 w.heap.size 49 (stL 0 0) := by rw [← hW0]; exact Blk.new _ _ _
  rw [hW0] at hb0
  have HB0 := hide hb0
  have HK0 := hide k0
  have HW0 := hide hW0
  clear hb0 k0 hW0
  go_enter Tryd.func8, Tryd.ntmps8
  go_wp2_with fail
  rw [show w.alloc (.cells #[.int .i64 0, .int .i64 0] 49) = W0 from HW0.out]
  go_loopw [4] (fun iv wr => ∃ (i m : Nat) (d : Int), iv = .int .i64 i ∧ i ≤ n ∧ Hid (StK m d) ∧ Hid (Blk wr w.heap.size 49 (stL m d)) ∧ Hid (Below w.heap.size w wr)) (fun iv _ => n - (intOf iv).toNat)
  case atStart => exact ⟨0, 0, 0, rfl, by omega, hide ⟨by omega, fun _ => rfl, by omega, by omega, by omega⟩, HK0, HB0⟩
  case round =>
    clear HK0 HB0
    obtain ⟨i, m, d, rfl, hi, HST, HK, HB⟩ := hrel
    have a0 := HK.out.cell (i := 0) rfl
    by_cases hlt : i < n
    · obtain ⟨x, hx⟩ : ∃ x, l[i]? = some x := ⟨_, List.getElem?_eq_getElem (by rw [HN.out]; exact hlt)⟩
      have hxb := HL.out x (List.mem_of_getElem? hx)
      obtain ⟨b, o, hAe, hbw, hcx⟩ := HA.out i x hx
      subst hAe
      have HC := hide (fun (W : World) (hW : Below w.heap.size w W) => show W.cell? ⟨b, o + i, none⟩ = some (.int .u8 x) from (hW.cell (p := ⟨b, o + i, none⟩) hbw).trans (by have := hcx 0 _ rfl; rw [show o + i * 1 + 0 = o + i by omega] at this; exact this))
      clear hcx hx
      have hm3 := HST.out.1
      obtain ⟨hp0, hp10⟩ := keep_len m hm3
      go_wp2_with fail
      refine (rulesOf_any m _ hm3 (HT.out.below HB.out)).mono ?_; rintro e w1 ⟨v1, rfl, hr1, hb1⟩
      obtain ⟨q, hq⟩ : ∃ q, (rowN m).length = q := ⟨_, rfl⟩
      obtain ⟨A1, c1, rfl, hqc, hcm1⟩ := hr1.form (n := q) (by rw [txt_len, hq])
      unfold maxLen at hcm1
      have HQ := hide hq
      have HR1 := hide hr1
      rw [hq] at hp0 hp10
      have HK1 := hide (HK.out.below hb1)
      have HB1 := hide (HB.out.trans (hb1.mono HB.out.size))
      obtain ⟨j, hj, hj1, hj2⟩ := wrap_idx hxb.1 hp0
      clear hr1 hb1 HK HB hq a0
      have HF := hide (keep_at hm3 (by rw [HQ.out]; exact hj))
      have HTX := hide (txt_at (m := m) (j := j) (by rw [HQ.out]; exact hj))
      obtain ⟨s, hs⟩ : ∃ s : ByteArray, ⟨(ruleN m j).1.toArray⟩ = s := ⟨_, rfl⟩
      rw [hs] at HF HTX
      obtain ⟨b1, hA1, -, -, c3⟩ := HR1.out.get HTX.out
      subst hA1
      have c2 := HC.out w1 HB1.out
      have q0 : ((q : Int) == 0) = false := by simp; omega
      have q2 : ¬ (q : Int) = 0 := by omega
      clear hs
      go_wp2_with fail
      refine (parse_any r s w1 (by have := HF.out.2.1; omega) (HS.out.below HB1.out)).mono ?_; rintro e w2 ⟨cs, he, hn, hb2⟩
      rw [HF.out.1] at he
      obtain ⟨k', x0, x1, x2, x3, A', m', cap', rfl, -, -⟩ := (NdX.of _ _ hn).form
      have he : e = .returned (.tuple #[.agg #[.int .i64 k', .int .u64 (x0 : Int), .int .u64 (x1 : Int), .int .u64 (x2 : Int), .int .u64 (x3 : Int), .slice A' m' cap'], .int .i64 0]) := he
      subst he
      have HK2 := hide (HK1.out.below hb2)
      have HB2 := hide (HB1.out.trans (hb2.mono HB1.out.size))
      clear hn hb2 HK1 HB1 c2 c3 HR1
      have hbx : Below w2.heap.size w2 (w2.alloc (.cells #[.int .i64 k', .int .u64 (x0 : Int), .int .u64 (x1 : Int), .int .u64 (x2 : Int), .int .u64 (x3 : Int), .slice A' m' cap'] 27)) := (Below.refl _ _).alloc (Nat.le_refl _) _
      have HK3 := hide (HK2.out.below hbx)
      have HB3 := hide (HB2.out.trans (hbx.mono HB2.out.size))
      clear hbx
      have a0 := HK3.out.cell (i := 0) rfl
      go_wp2_with fail
      obtain ⟨w3, hw3⟩ : ∃ W, w2.alloc (.cells #[.int .i64 k', .int .u64 (x0 : Int), .int .u64 (x1 : Int), .int .u64 (x2 : Int), .int .u64 (x3 : Int), .slice A' m' cap'] 27) = W := ⟨_, rfl⟩
      rw [hw3] at HK3 HB3 ⊢
      clear hw3 a0 HK2 HB2
      have HKD := hide (kind_ok m j w3 hm3 (by rw [HQ.out]; exact hj) (HT.out.below HB3.out))
      obtain ⟨kk, hkk⟩ : ∃ x, (ruleN m j).2.1 = x := ⟨_, rfl⟩
      have hk0 := HF.out.2.2
      rw [hkk] at HKD hk0
      have q5 : (kk == 0) = false := by simpa using hk0
      clear hkk hk0
      refine HKD.out.mono ?_; rintro e w4 ⟨rfl, hb4⟩
      have HK4 := hide (HK3.out.below hb4)
      have HB4 := hide (HB3.out.trans (hb4.mono HB3.out.size))
      clear hb4 HK3 HB3 HKD
      have a0 := HK4.out.cell (i := 0) rfl
      have a1 := HK4.out.cell (i := 1) rfl
      go_wp2_with fail
      have hsk := HST.out
      obtain ⟨m2, d2, he2, hst2⟩ := aft_keep HST.out (ruleN m j).2.2
      refine (after_any m j d w4 hm3 (by rw [HQ.out]; exact hj) (by have := hsk.2.2.2.1; omega) (by have := hsk.2.2.2.2; omega) (HT.out.below HB4.out)).mono ?_; rintro e w5 ⟨he, hb5⟩
      rw [he2] at he
      dsimp only at he
      subst he
      have HK5 := hide (HK4.out.below hb5)
      have HB5 := hide (HB4.out.trans (hb5.mono HB4.out.size))
      have HST2 := hide hst2
      clear hb5 HK4 HB4 a0 a1 he2 hst2 hsk
      have a0 := HK5.out.cell (i := 0) rfl
      have a1 := HK5.out.cell (i := 1) rfl
      have af := fun i => HK5.out.frozen i
      have HK6 := hide (st_set HK5.out m2 d2)
      have HB6 := hide ((HB5.out.setCell (p := ⟨w.heap.size, 0, none⟩) (Nat.le_refl _) (.int .i64 (m2 : Int))).setCell (p := ⟨w.heap.size, 1, none⟩) (Nat.le_refl _) (.int .i64 d2))
      obtain ⟨g1, g2, g3, g4, g5⟩ := HST2.out
      have p1 : ¬ (m2 : Int) < 0 := by omega
      have p2 : ¬ (2 : Int) < (m2 : Int) := by omega
      by_cases hm2 : m2 = 2
      · subst hm2
        have p3 := g3 rfl
        have p4 : ¬ d2 < 1 := by omega
        clear g2 g3
        go_wp2
        go_roundw
        case rel => exact ⟨i + 1, 2, d2, by go_num, by omega, HST2, HK6, HB6⟩
        case measure => simp [intOf]; omega
      · have p3 := g2 hm2
        subst p3
        have p5 : ((m2 : Int) != 2) = true := by simp; omega
        have p6 : ((m2 : Int) == 2) = false := by simp; omega
        clear g2 g3 hm2
        go_wp2
        go_roundw
        case rel => exact ⟨i + 1, m2, 0, by go_num, by omega, HST2, HK6, HB6⟩
        case measure => simp [intOf]; omega
    · obtain rfl : i = n := by omega
      go_wp2_with fail
      refine (worded_any _ (HT.out.below HB.out) (HM.out.below HB.out)).mono ?_; rintro e w1 ⟨rfl, hb1⟩
      go_wp2
      go_ret
      exact ⟨rfl, HB.out.trans (hb1.mono HB.out.size)⟩
end Go.Proofs.YtfamoikmfbpigaaDoor
