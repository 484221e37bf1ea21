/- limnerref10.set. -/
import Derived.Test.YtfamoikmfbpigaaDoorFspans
namespace Go.Proofs.YtfamoikmfbpigaaDoor
open Go.RowKit

def cBf (S : List Nat) : Nat → Nat → Nat
  | 0, _ => 0
  | f + 1, b => (if hasS S b = true then 1 else 0) + cBf S f (b + 1)
/-- How many bytes a set has, from one on. -/
def cB (S : List Nat) (b : Nat) : Nat := cBf S (256 - b) b
theorem cB_step {S : List Nat} {b : Nat} (h : b < 256) : cB S b = (if hasS S b = true then 1 else 0) + cB S (b + 1) := by
  unfold cB
  rw [show 256 - b = (256 - (b + 1)) + 1 by omega, cBf]
theorem cB_run (S : List Nat) : ∀ (f b : Nat), 255 - b ≤ f → b ≤ 255 → hasS S b = true → cB S b = (enR S b - b + 1) + cB S (enR S b + 1)
  | 0, b, hf, hb, hh => by
    obtain rfl : b = 255 := by omega
    rw [cB_step (by omega), if_pos hh, enR_last (by omega)]
  | f + 1, b, hf, hb, hh => by
    rw [cB_step (by omega), if_pos hh]
    by_cases h : b < 255
    · cases h2 : hasS S (b + 1) with
      | true =>
        have := cB_run S f (b + 1) (by omega) (by omega) h2
        have hbd := enR_bd S (b := b + 1) (by omega)
        rw [enR_go h h2, this]; omega
      | false => rw [enR_no h2]; omega
    · rw [enR_last h]; omega
theorem many_cB (S : List Nat) : ∀ (f b : Nat), 256 - b ≤ f → manyR (scR S b) = cB S b
  | 0, b, h => by rw [scR_out (by omega)]; unfold cB; rw [show 256 - b = 0 by omega]; rfl
  | f + 1, b, h => by
    by_cases hb : b < 256
    · cases h2 : hasS S b with
      | true =>
        have hbd := enR_bd S (b := b) (by omega)
        rw [scR_yes hb h2, cB_run S 256 b (by omega) (by omega) h2, ← many_cB S f (enR S b + 1) (by omega)]
        simp [manyR]
      | false => rw [scR_no hb h2, cB_step hb, h2, if_neg (by decide), Nat.zero_add]; exact many_cB S f (b + 1) (by omega)
    · rw [scR_out hb]; unfold cB; rw [show 256 - b = 0 by omega]; rfl
/-- What is left behind a byte of a run. -/
def cR (S : List Nat) (b : Nat) : List (Nat × Nat) := if b < 255 ∧ hasS S (b + 1) = true then scR S (enR S (b + 1) + 1) else scR S (b + 1)
theorem cR_eq (S : List Nat) (b : Nat) : cR S b = scR S (enR S b + 1) := by
  unfold cR
  split
  · rename_i h; rw [enR_go h.1 h.2]
  · rename_i h
    by_cases h1 : b < 255
    · rw [enR_no (by simpa [h1] using h)]
    · rw [enR_last h1]
def rsR (S : List Nat) (b : Nat) : List (Nat × Nat) := if b = 0 ∨ hasS S (b - 1) = false then scR S b else cR S (b - 1)
theorem rs_0 (S : List Nat) : rsR S 0 = scR S 0 := if_pos (.inl rfl)
theorem rs_no {S : List Nat} {b : Nat} (h : b < 256) (h2 : hasS S b = false) : rsR S b = rsR S (b + 1) := by
  have e1 : rsR S (b + 1) = scR S (b + 1) := if_pos (.inr (by simpa using h2))
  rw [e1, ← scR_no h h2]
  unfold rsR
  split
  · rfl
  · rename_i hh
    have hb0 : 0 < b := by rcases Nat.eq_zero_or_pos b with h | h; exact absurd (.inl h) hh; exact h
    unfold cR
    rw [show b - 1 + 1 = b by omega, if_neg (by rw [h2]; simp)]
theorem rs_in {S : List Nat} {b : Nat} (hb : b < 255) (h : hasS S b = true) (h2 : hasS S (b + 1) = true) : rsR S (b + 1) = rsR S (b + 1 + 1) := by
  have e1 : rsR S (b + 1) = cR S b := if_neg (by simp [h])
  have e2 : rsR S (b + 1 + 1) = cR S (b + 1) := if_neg (by simp [h2])
  rw [e1, e2, cR_eq, cR_eq, enR_go hb h2]
theorem rs_new {S : List Nat} {b : Nat} (hb : b < 256) (h : hasS S b = true) (h2 : b = 0 ∨ hasS S (b - 1) = false) : rsR S b = (b, enR S b) :: rsR S (b + 1) := by
  have e2 : rsR S (b + 1) = cR S b := if_neg (by simp [h])
  rw [e2, cR_eq, ← scR_yes hb h]
  exact if_pos h2
theorem rs_end (S : List Nat) : rsR S 256 = [] := by
  unfold rsR
  split
  · exact scR_out (by omega)
  · rw [cR_eq, enR_last (by omega)]; exact scR_out (by omega)
def txtR (l : List (Nat × Nat)) : ByteArray := ⟨(l.flatMap spanT).toArray⟩
theorem txtR_app (l : List (Nat × Nat)) (p : Nat × Nat) : txtR (l ++ [p]) = txtR l ++ ⟨(spanT p).toArray⟩ := by
  unfold txtR
  rw [toArr_app, List.flatMap_append]
  simp
theorem span_three {a b : Nat} (h : a < b) (s : ByteArray) : s ++ (⟨(shownE a).toArray⟩ : ByteArray) ++ ⟨#[45]⟩ ++ ⟨(shownE b).toArray⟩ = s ++ ⟨(spanT (a, b)).toArray⟩ := by
  rw [← span_two h, ByteArray.append_assoc, ByteArray.append_assoc]
/-- What set's box is. -/
def StS (w W : World) (S : List Nat) : Prop := Blk W w.heap.size 24 (u4 S) ∧ Below w.heap.size w W
theorem StS.low {w W V : World} {S : List Nat} (h : StS w W S) (hb : Below W.heap.size W V) : StS w V S := ⟨h.1.below hb, h.2.trans (hb.mono h.2.size)⟩
set_option maxHeartbeats 8000000 in
set_option maxRecDepth 100000 in
theorem rset_any (x0 x1 x2 x3 : Nat) (w : World) (hS : W64 [x0, x1, x2, x3]) :
    Calls Tryd.prog 47 #[.agg #[.int .u64 (x0 : Int), .int .u64 (x1 : Int), .int .u64 (x2 : Int), .int .u64 (x3 : Int)]] w (StrP (spansE [x0, x1, x2, x3]) w) := by
  have HS := hide hS
  have HB0 := hide (show StS w (w.alloc (.cells (u4 [x0, x1, x2, x3]).toArray 24)) [x0, x1, x2, x3] from ⟨Blk.new _ _ _, (Below.refl _ _).alloc (Nat.le_refl _) _⟩)
  clear hS
  go_enter Tryd.func47, Tryd.ntmps47
  go_wp2
  rw [show w.alloc (.cells #[.int .u64 (x0 : Int), .int .u64 (x1 : Int), .int .u64 (x2 : Int), .int .u64 (x3 : Int)] 24) = w.alloc (.cells (u4 [x0, x1, x2, x3]).toArray 24) from rfl]
  obtain ⟨W0, hW0⟩ : ∃ W, w.alloc (.cells (u4 [x0, x1, x2, x3]).toArray 24) = W := ⟨_, rfl⟩
  rw [hW0] at HB0 ⊢
  clear hW0
  go_loopw [3, 4, 5] (fun sv kv bv wr => ∃ (b k : Nat) (s : ByteArray) (R : List (Nat × Nat)), bv = .int .i64 (b : Int) ∧ kv = .int .i64 (k : Int) ∧ sv = .string s ∧ b ≤ 256 ∧ k ≤ b ∧ R.length ≤ b ∧ s.size ≤ 9 * b ∧ Hid (txtR R = s) ∧ Hid (k + cB [x0, x1, x2, x3] b = cB [x0, x1, x2, x3] 0) ∧ Hid (R ++ rsR [x0, x1, x2, x3] b = scR [x0, x1, x2, x3] 0) ∧ Hid (StS w wr [x0, x1, x2, x3])) (fun _ _ bv _ => 256 - (intOf bv).toNat)
  case atStart => exact ⟨0, 0, ⟨#[]⟩, [], rfl, rfl, rfl, by omega, by omega, by simp, by simp [ByteArray.size], hide rfl, hide (by simp), hide (by rw [rs_0]; rfl), HB0⟩
  case round =>
    clear HB0
    obtain ⟨b, k, s, R, rfl, rfl, rfl, hb, hk, hRl, hsz, HT, HK, HR, HB⟩ := hrel
    have z0 : s.size ≤ 2304 := by omega
    have HSZ := hide hsz
    have HKR := hide (And.intro hk hRl)
    have k9 : k ≤ 256 := by omega
    clear hsz hk hRl
    have a0 := HB.out.1.cell (i := 0) rfl
    have a1 := HB.out.1.cell (i := 1) rfl
    have a2 := HB.out.1.cell (i := 2) rfl
    have a3 := HB.out.1.cell (i := 3) rfl
    by_cases hlt : b < 256
    · have hw8 := u8_in hlt
      have hcb := cB_step (S := [x0, x1, x2, x3]) hlt
      have HC := hide (rhas_any x0 x1 x2 x3 b wr HS.out hlt)
      cases hh : hasS [x0, x1, x2, x3] b with
      | false =>
        rw [hh] at HC hcb
        rw [if_neg (by decide), Nat.zero_add] at hcb
        have HK2 := hide (show k + cB [x0, x1, x2, x3] (b + 1) = cB [x0, x1, x2, x3] 0 by rw [← hcb]; exact HK.out)
        have HR2 := hide (show R ++ rsR [x0, x1, x2, x3] (b + 1) = scR [x0, x1, x2, x3] 0 by rw [← rs_no hlt hh]; exact HR.out)
        clear hh hcb
        go_wp2_with fail
        refine HC.out.mono ?_; rintro e w1 ⟨rfl, hb1⟩
        have HB1 := hide (HB.out.low hb1)
        clear hb1 HB HC a0 a1 a2 a3
        go_wp2
        go_roundw
        case rel => exact ⟨b + 1, k, s, R, by go_num, rfl, rfl, by omega, by have := HKR.out.1; omega, by have := HKR.out.2; omega, by have := HSZ.out; omega, HT, HK2, HR2, HB1⟩
        case measure => simp [intOf]; omega
      | true =>
        rw [hh] at HC hcb
        rw [if_pos rfl] at hcb
        have HK2 := hide (show (k + 1) + cB [x0, x1, x2, x3] (b + 1) = cB [x0, x1, x2, x3] 0 by rw [← HK.out, hcb]; omega)
        clear hcb
        go_wp2_with fail
        refine HC.out.mono ?_; rintro e w1 ⟨rfl, hb1⟩
        have HB1 := hide (HB.out.low hb1)
        clear hb1 HB HC a0 a1 a2 a3
        by_cases hb0 : b = 0
        · have h0 : b = 0 ∨ hasS [x0, x1, x2, x3] (b - 1) = false := .inl hb0
          obtain ⟨bi, hbi⟩ : ∃ x : Int, (b : Int) = x := ⟨_, rfl⟩
          have HBI := hide hbi
          have HB0 := hide hb0
          have qb0 : ¬ 0 < bi := by omega
          have qb1 : 0 ≤ bi := by omega
          have qb2 : bi ≤ 255 := by omega
          rw [hbi] at hw8 ⊢
          clear hb0 hbi
          have HRY := hide (rs_new hlt hh h0)
          have hen := enR_bd [x0, x1, x2, x3] (b := b) (by omega)
          obtain ⟨E, hE⟩ : ∃ E, enR [x0, x1, x2, x3] b = E := ⟨_, rfl⟩
          rw [hE] at hen HRY
          have HE := hide hE
          clear hh h0 hE
          go_wp2_with fail
          obtain ⟨wo, hwo⟩ : ∃ wo : World, wo = wr := ⟨_, rfl⟩
          clear hwo
          go_loopw [6] (fun cv wr => ∃ c : Nat, cv = .int .i64 (c : Int) ∧ b ≤ c ∧ c ≤ E ∧ Hid (enR [x0, x1, x2, x3] c = E) ∧ Hid (StS w wr [x0, x1, x2, x3])) (fun cv _ => 256 - (intOf cv).toNat)
          case atStart => exact ⟨b, by rw [HBI.out], by omega, by omega, HE, HB1⟩
          case round =>
            clear HB1
            obtain ⟨c, rfl, hbc, hcE, HEc, HB⟩ := hrel
            have a0 := HB.out.1.cell (i := 0) rfl
            have a1 := HB.out.1.cell (i := 1) rfl
            have a2 := HB.out.1.cell (i := 2) rfl
            have a3 := HB.out.1.cell (i := 3) rfl
            by_cases hc5 : c < 255
            · have qc5 : (c : Int) < 255 := by omega
              have hw81 : IntKind.u8.wrap ((c : Int) + 1) = ((c + 1 : Nat) : Int) := u8_in (b := c + 1) (by omega)
              have HC := hide (rhas_any x0 x1 x2 x3 (c + 1) wr HS.out (by omega))
              cases hh : hasS [x0, x1, x2, x3] (c + 1) with
              | true =>
                rw [hh] at HC
                have HE2 := hide (show enR [x0, x1, x2, x3] (c + 1) = E by rw [← enR_go hc5 hh]; exact HEc.out)
                have hce2 : c + 1 ≤ E := by have h1 := enR_bd [x0, x1, x2, x3] (b := c + 1) (by omega); have h2 := HE2.out; omega
                clear hh
                go_wp2_with fail
                refine HC.out.mono ?_; rintro e w2 ⟨rfl, hb2⟩
                have HB2 := hide (HB.out.low hb2)
                clear hb2 HB HC a0 a1 a2 a3
                go_wp2
                go_roundw
                case rel => exact ⟨c + 1, by go_num, by omega, by omega, HE2, HB2⟩
                case measure => simp [intOf]; omega
              | false =>
                rw [hh] at HC
                obtain rfl : c = E := by rw [← HEc.out, enR_no hh]
                clear hh
                go_wp2_with fail
                refine HC.out.mono ?_; rintro e w9 ⟨rfl, hb9⟩
                have HB := hide (HB.out.low hb9)
                clear hb9 HC hw81
                have hw9 := u8_in (show c < 256 by omega)
                have z1 : (⟨(shownE b).toArray⟩ : ByteArray).size ≤ 4 := by rw [bd_size]; exact shownE_len b
                have HS1 := hide (byte1_any b)
                obtain ⟨s1, hs1⟩ : ∃ s : ByteArray, ⟨(shownE b).toArray⟩ = s := ⟨_, rfl⟩
                have HC1 := hide (show ∀ W, Calls Tryd.prog 58 #[.int .u8 bi] W fun e w' => e = .returned (.string s1) ∧ Below W.heap.size W w' from fun W => by rw [← hs1, ← HBI.out]; exact HS1.out W hlt)
                have HS1E := hide hs1
                rw [hs1] at z1
                clear hs1
                go_wp2_with fail
                refine (HC1.out _).mono ?_; rintro e w2 ⟨rfl, hb2⟩
                have HB2 := hide (HB.out.low hb2)
                clear hb2 HB HC1 a0 a1 a2 a3
                have y1 : (s ++ s1).size ≤ 2308 := by rw [ByteArray.size_append]; omega
                by_cases hcb : b < c
                · have qcb : bi < (c : Int) := by omega
                  have HSP := hide (span_three hcb s)
                  have z2 : (⟨(shownE c).toArray⟩ : ByteArray).size ≤ 4 := by rw [bd_size]; exact shownE_len c
                  have HC2 := hide (byte1_any c w2 (by omega))
                  obtain ⟨s2, hs2⟩ : ∃ s : ByteArray, ⟨(shownE c).toArray⟩ = s := ⟨_, rfl⟩
                  have HC2 := hide (show Calls Tryd.prog 58 #[.int .u8 (c : Int)] w2 fun e w' => e = .returned (.string s2) ∧ Below w2.heap.size w2 w' from by rw [← hs2]; exact HC2.out)
                  rw [HS1E.out, hs2] at HSP
                  rw [hs2] at z2
                  have y2 : (s ++ s1 ++ ⟨#[45]⟩).size ≤ 2309 := by rw [ByteArray.size_append]; have : (⟨#[45]⟩ : ByteArray).size = 1 := rfl; omega
                  have y3 : (⟨#[45]⟩ : ByteArray).size = 1 := rfl
                  have Y4 := hide (show (s ++ s1 ++ ⟨#[45]⟩ ++ s2).size ≤ 9 * (b + 1) by rw [ByteArray.size_append, ByteArray.size_append, ByteArray.size_append]; have := HSZ.out; omega)
                  have y5 : (s ++ s1 ++ ⟨#[45]⟩ ++ s2).size ≤ 2330 := by rw [ByteArray.size_append, ByteArray.size_append, ByteArray.size_append]; omega
                  clear hs2 hcb
                  go_wp2_with fail
                  refine HC2.out.mono ?_; rintro e w3 ⟨rfl, hb3⟩
                  have HB3 := hide (HB2.out.low hb3)
                  clear hb3 HB2 HC2
                  go_wp2
                  go_roundw
                  case rel => exact ⟨b + 1, k + 1, _, R ++ [(b, c)], by rw [← HBI.out]; go_num, by go_num, rfl, by omega, by have := HKR.out.1; omega, by have := HKR.out.2; simp; omega, Y4.out, hide (by rw [txtR_app, HT.out]; exact HSP.out.symm), HK2, hide (by rw [List.append_assoc]; show R ++ ((b, c) :: rsR [x0, x1, x2, x3] (b + 1)) = _; rw [← HRY.out]; exact HR.out), HB3⟩
                  case measure => rw [← HBI.out]; simp [intOf]; omega
                · have qcb : ¬ bi < (c : Int) := by have := HBI.out; omega
                  obtain rfl : b = c := by omega
                  have Y4 := hide (show (s ++ s1).size ≤ 9 * (b + 1) by rw [ByteArray.size_append]; have := HSZ.out; omega)
                  clear hcb
                  go_wp2
                  go_roundw
                  case rel => exact ⟨b + 1, k + 1, _, R ++ [(b, b)], by rw [← HBI.out]; go_num, by go_num, rfl, by omega, by have := HKR.out.1; omega, by have := HKR.out.2; simp; omega, Y4.out, hide (by rw [txtR_app, HT.out, span_one, HS1E.out]), HK2, hide (by rw [List.append_assoc]; show R ++ ((b, b) :: rsR [x0, x1, x2, x3] (b + 1)) = _; rw [← HRY.out]; exact HR.out), HB2⟩
                  case measure => rw [← HBI.out]; simp [intOf]; omega
            · have qc5 : ¬ (c : Int) < 255 := by omega
              obtain rfl : c = E := by rw [← HEc.out, enR_last hc5]
              have hw9 := u8_in (show c < 256 by omega)
              have z1 : (⟨(shownE b).toArray⟩ : ByteArray).size ≤ 4 := by rw [bd_size]; exact shownE_len b
              have HS1 := hide (byte1_any b)
              obtain ⟨s1, hs1⟩ : ∃ s : ByteArray, ⟨(shownE b).toArray⟩ = s := ⟨_, rfl⟩
              have HC1 := hide (show ∀ W, Calls Tryd.prog 58 #[.int .u8 bi] W fun e w' => e = .returned (.string s1) ∧ Below W.heap.size W w' from fun W => by rw [← hs1, ← HBI.out]; exact HS1.out W hlt)
              have HS1E := hide hs1
              rw [hs1] at z1
              clear hs1
              go_wp2_with fail
              refine (HC1.out _).mono ?_; rintro e w2 ⟨rfl, hb2⟩
              have HB2 := hide (HB.out.low hb2)
              clear hb2 HB HC1 a0 a1 a2 a3
              have y1 : (s ++ s1).size ≤ 2308 := by rw [ByteArray.size_append]; omega
              by_cases hcb : b < c
              · have qcb : bi < (c : Int) := by omega
                have HSP := hide (span_three hcb s)
                have z2 : (⟨(shownE c).toArray⟩ : ByteArray).size ≤ 4 := by rw [bd_size]; exact shownE_len c
                have HC2 := hide (byte1_any c w2 (by omega))
                obtain ⟨s2, hs2⟩ : ∃ s : ByteArray, ⟨(shownE c).toArray⟩ = s := ⟨_, rfl⟩
                have HC2 := hide (show Calls Tryd.prog 58 #[.int .u8 (c : Int)] w2 fun e w' => e = .returned (.string s2) ∧ Below w2.heap.size w2 w' from by rw [← hs2]; exact HC2.out)
                rw [HS1E.out, hs2] at HSP
                rw [hs2] at z2
                have y2 : (s ++ s1 ++ ⟨#[45]⟩).size ≤ 2309 := by rw [ByteArray.size_append]; have : (⟨#[45]⟩ : ByteArray).size = 1 := rfl; omega
                have y3 : (⟨#[45]⟩ : ByteArray).size = 1 := rfl
                have Y4 := hide (show (s ++ s1 ++ ⟨#[45]⟩ ++ s2).size ≤ 9 * (b + 1) by rw [ByteArray.size_append, ByteArray.size_append, ByteArray.size_append]; have := HSZ.out; omega)
                have y5 : (s ++ s1 ++ ⟨#[45]⟩ ++ s2).size ≤ 2330 := by rw [ByteArray.size_append, ByteArray.size_append, ByteArray.size_append]; omega
                clear hs2 hcb
                go_wp2_with fail
                refine HC2.out.mono ?_; rintro e w3 ⟨rfl, hb3⟩
                have HB3 := hide (HB2.out.low hb3)
                clear hb3 HB2 HC2
                go_wp2
                go_roundw
                case rel => exact ⟨b + 1, k + 1, _, R ++ [(b, c)], by rw [← HBI.out]; go_num, by go_num, rfl, by omega, by have := HKR.out.1; omega, by have := HKR.out.2; simp; omega, Y4.out, hide (by rw [txtR_app, HT.out]; exact HSP.out.symm), HK2, hide (by rw [List.append_assoc]; show R ++ ((b, c) :: rsR [x0, x1, x2, x3] (b + 1)) = _; rw [← HRY.out]; exact HR.out), HB3⟩
                case measure => rw [← HBI.out]; simp [intOf]; omega
              · have qcb : ¬ bi < (c : Int) := by have := HBI.out; omega
                exfalso; have := HB0.out; omega
        · have qb0 : (0 : Int) < (b : Int) := by omega
          obtain ⟨d, hdb⟩ : ∃ d, b = d + 1 := ⟨b - 1, by omega⟩
          have hwd : IntKind.u8.wrap (d : Int) = (d : Int) := u8_in (by omega)
          have HC := hide (rhas_any x0 x1 x2 x3 d w1 HS.out (by omega))
          have a0 := HB1.out.1.cell (i := 0) rfl
          have a1 := HB1.out.1.cell (i := 1) rfl
          have a2 := HB1.out.1.cell (i := 2) rfl
          have a3 := HB1.out.1.cell (i := 3) rfl
          have hsub : (b : Int) - 1 = (d : Int) := by omega
          have HDB := hide hdb
          clear hdb
          cases hd : hasS [x0, x1, x2, x3] d with
          | true =>
            rw [hd] at HC
            have HR2 := hide (show R ++ rsR [x0, x1, x2, x3] (b + 1) = scR [x0, x1, x2, x3] 0 by have h1 := HR.out; have h2 := HDB.out; subst h2; rw [← rs_in (by omega) hd hh]; exact h1)
            clear hd hh
            go_wp2_with fail
            refine HC.out.mono ?_; rintro e w2 ⟨rfl, hb2⟩
            have HB2 := hide (HB1.out.low hb2)
            clear hb2 HB1 HC a0 a1 a2 a3 hb0
            go_wp2
            go_roundw
            case rel => exact ⟨b + 1, k + 1, s, R, by go_num, by go_num, rfl, by omega, by have := HKR.out.1; omega, by have := HKR.out.2; omega, by have := HSZ.out; omega, HT, HK2, HR2, HB2⟩
            case measure => simp [intOf]; omega
          | false =>
            rw [hd] at HC
            have h0 : b = 0 ∨ hasS [x0, x1, x2, x3] (b - 1) = false := .inr (by rw [show b - 1 = d by have := HDB.out; omega]; exact hd)
            clear hd
            go_wp2_with fail
            refine HC.out.mono ?_; rintro e w2 ⟨rfl, hb2⟩
            replace HB1 := hide (HB1.out.low hb2)
            clear hb2 HC a0 a1 a2 a3 hb0 hsub
            have HRY := hide (rs_new hlt hh h0)
            have hen := enR_bd [x0, x1, x2, x3] (b := b) (by omega)
            obtain ⟨E, hE⟩ : ∃ E, enR [x0, x1, x2, x3] b = E := ⟨_, rfl⟩
            rw [hE] at hen HRY
            have HE := hide hE
            clear hh h0 hE
            go_wp2_with fail
            obtain ⟨wo, hwo⟩ : ∃ wo : World, wo = wr := ⟨_, rfl⟩
            clear hwo
            go_loopw [6] (fun cv wr => ∃ c : Nat, cv = .int .i64 (c : Int) ∧ b ≤ c ∧ c ≤ E ∧ Hid (enR [x0, x1, x2, x3] c = E) ∧ Hid (StS w wr [x0, x1, x2, x3])) (fun cv _ => 256 - (intOf cv).toNat)
            case atStart => exact ⟨b, rfl, by omega, by omega, HE, HB1⟩
            case round =>
              clear HB1
              obtain ⟨c, rfl, hbc, hcE, HEc, HB⟩ := hrel
              have a0 := HB.out.1.cell (i := 0) rfl
              have a1 := HB.out.1.cell (i := 1) rfl
              have a2 := HB.out.1.cell (i := 2) rfl
              have a3 := HB.out.1.cell (i := 3) rfl
              by_cases hc5 : c < 255
              · have qc5 : (c : Int) < 255 := by omega
                have hw81 : IntKind.u8.wrap ((c : Int) + 1) = ((c + 1 : Nat) : Int) := u8_in (b := c + 1) (by omega)
                have HC := hide (rhas_any x0 x1 x2 x3 (c + 1) wr HS.out (by omega))
                cases hh : hasS [x0, x1, x2, x3] (c + 1) with
                | true =>
                  rw [hh] at HC
                  have HE2 := hide (show enR [x0, x1, x2, x3] (c + 1) = E by rw [← enR_go hc5 hh]; exact HEc.out)
                  have hce2 : c + 1 ≤ E := by have h1 := enR_bd [x0, x1, x2, x3] (b := c + 1) (by omega); have h2 := HE2.out; omega
                  clear hh
                  go_wp2_with fail
                  refine HC.out.mono ?_; rintro e w2 ⟨rfl, hb2⟩
                  have HB2 := hide (HB.out.low hb2)
                  clear hb2 HB HC a0 a1 a2 a3
                  go_wp2
                  go_roundw
                  case rel => exact ⟨c + 1, by go_num, by omega, by omega, HE2, HB2⟩
                  case measure => simp [intOf]; omega
                | false =>
                  rw [hh] at HC
                  obtain rfl : c = E := by rw [← HEc.out, enR_no hh]
                  clear hh
                  go_wp2_with fail
                  refine HC.out.mono ?_; rintro e w9 ⟨rfl, hb9⟩
                  have HB := hide (HB.out.low hb9)
                  clear hb9 HC hw81
                  have hw9 := u8_in (show c < 256 by omega)
                  have z1 : (⟨(shownE b).toArray⟩ : ByteArray).size ≤ 4 := by rw [bd_size]; exact shownE_len b
                  have HS1 := hide (byte1_any b)
                  obtain ⟨s1, hs1⟩ : ∃ s : ByteArray, ⟨(shownE b).toArray⟩ = s := ⟨_, rfl⟩
                  have HC1 := hide (show ∀ W, Calls Tryd.prog 58 #[.int .u8 (b : Int)] W fun e w' => e = .returned (.string s1) ∧ Below W.heap.size W w' from fun W => by rw [← hs1]; exact HS1.out W hlt)
                  have HS1E := hide hs1
                  rw [hs1] at z1
                  clear hs1
                  go_wp2_with fail
                  refine (HC1.out _).mono ?_; rintro e w2 ⟨rfl, hb2⟩
                  have HB2 := hide (HB.out.low hb2)
                  clear hb2 HB HC1 a0 a1 a2 a3
                  have y1 : (s ++ s1).size ≤ 2308 := by rw [ByteArray.size_append]; omega
                  by_cases hcb : b < c
                  · have qcb : (b : Int) < (c : Int) := by omega
                    have HSP := hide (span_three hcb s)
                    have z2 : (⟨(shownE c).toArray⟩ : ByteArray).size ≤ 4 := by rw [bd_size]; exact shownE_len c
                    have HC2 := hide (byte1_any c w2 (by omega))
                    obtain ⟨s2, hs2⟩ : ∃ s : ByteArray, ⟨(shownE c).toArray⟩ = s := ⟨_, rfl⟩
                    have HC2 := hide (show Calls Tryd.prog 58 #[.int .u8 (c : Int)] w2 fun e w' => e = .returned (.string s2) ∧ Below w2.heap.size w2 w' from by rw [← hs2]; exact HC2.out)
                    rw [HS1E.out, hs2] at HSP
                    rw [hs2] at z2
                    have y2 : (s ++ s1 ++ ⟨#[45]⟩).size ≤ 2309 := by rw [ByteArray.size_append]; have : (⟨#[45]⟩ : ByteArray).size = 1 := rfl; omega
                    have y3 : (⟨#[45]⟩ : ByteArray).size = 1 := rfl
                    have Y4 := hide (show (s ++ s1 ++ ⟨#[45]⟩ ++ s2).size ≤ 9 * (b + 1) by rw [ByteArray.size_append, ByteArray.size_append, ByteArray.size_append]; have := HSZ.out; omega)
                    have y5 : (s ++ s1 ++ ⟨#[45]⟩ ++ s2).size ≤ 2330 := by rw [ByteArray.size_append, ByteArray.size_append, ByteArray.size_append]; omega
                    clear hs2 hcb
                    go_wp2_with fail
                    refine HC2.out.mono ?_; rintro e w3 ⟨rfl, hb3⟩
                    have HB3 := hide (HB2.out.low hb3)
                    clear hb3 HB2 HC2
                    go_wp2
                    go_roundw
                    case rel => exact ⟨b + 1, k + 1, _, R ++ [(b, c)], by go_num, by go_num, rfl, by omega, by have := HKR.out.1; omega, by have := HKR.out.2; simp; omega, Y4.out, hide (by rw [txtR_app, HT.out]; exact HSP.out.symm), HK2, hide (by rw [List.append_assoc]; show R ++ ((b, c) :: rsR [x0, x1, x2, x3] (b + 1)) = _; rw [← HRY.out]; exact HR.out), HB3⟩
                    case measure => simp [intOf]; omega
                  · have qcb : ¬ (b : Int) < (c : Int) := by omega
                    obtain rfl : b = c := by omega
                    have Y4 := hide (show (s ++ s1).size ≤ 9 * (b + 1) by rw [ByteArray.size_append]; have := HSZ.out; omega)
                    clear hcb
                    go_wp2
                    go_roundw
                    case rel => exact ⟨b + 1, k + 1, _, R ++ [(b, b)], by go_num, by go_num, rfl, by omega, by have := HKR.out.1; omega, by have := HKR.out.2; simp; omega, Y4.out, hide (by rw [txtR_app, HT.out, span_one, HS1E.out]), HK2, hide (by rw [List.append_assoc]; show R ++ ((b, b) :: rsR [x0, x1, x2, x3] (b + 1)) = _; rw [← HRY.out]; exact HR.out), HB2⟩
                    case measure => simp [intOf]; omega
              · have qc5 : ¬ (c : Int) < 255 := by omega
                obtain rfl : c = E := by rw [← HEc.out, enR_last hc5]
                have hw9 := u8_in (show c < 256 by omega)
                have z1 : (⟨(shownE b).toArray⟩ : ByteArray).size ≤ 4 := by rw [bd_size]; exact shownE_len b
                have HS1 := hide (byte1_any b)
                obtain ⟨s1, hs1⟩ : ∃ s : ByteArray, ⟨(shownE b).toArray⟩ = s := ⟨_, rfl⟩
                have HC1 := hide (show ∀ W, Calls Tryd.prog 58 #[.int .u8 (b : Int)] W fun e w' => e = .returned (.string s1) ∧ Below W.heap.size W w' from fun W => by rw [← hs1]; exact HS1.out W hlt)
                have HS1E := hide hs1
                rw [hs1] at z1
                clear hs1
                go_wp2_with fail
                refine (HC1.out _).mono ?_; rintro e w2 ⟨rfl, hb2⟩
                have HB2 := hide (HB.out.low hb2)
                clear hb2 HB HC1 a0 a1 a2 a3
                have y1 : (s ++ s1).size ≤ 2308 := by rw [ByteArray.size_append]; omega
                by_cases hcb : b < c
                · have qcb : (b : Int) < (c : Int) := by omega
                  have HSP := hide (span_three hcb s)
                  have z2 : (⟨(shownE c).toArray⟩ : ByteArray).size ≤ 4 := by rw [bd_size]; exact shownE_len c
                  have HC2 := hide (byte1_any c w2 (by omega))
                  obtain ⟨s2, hs2⟩ : ∃ s : ByteArray, ⟨(shownE c).toArray⟩ = s := ⟨_, rfl⟩
                  have HC2 := hide (show Calls Tryd.prog 58 #[.int .u8 (c : Int)] w2 fun e w' => e = .returned (.string s2) ∧ Below w2.heap.size w2 w' from by rw [← hs2]; exact HC2.out)
                  rw [HS1E.out, hs2] at HSP
                  rw [hs2] at z2
                  have y2 : (s ++ s1 ++ ⟨#[45]⟩).size ≤ 2309 := by rw [ByteArray.size_append]; have : (⟨#[45]⟩ : ByteArray).size = 1 := rfl; omega
                  have y3 : (⟨#[45]⟩ : ByteArray).size = 1 := rfl
                  have Y4 := hide (show (s ++ s1 ++ ⟨#[45]⟩ ++ s2).size ≤ 9 * (b + 1) by rw [ByteArray.size_append, ByteArray.size_append, ByteArray.size_append]; have := HSZ.out; omega)
                  have y5 : (s ++ s1 ++ ⟨#[45]⟩ ++ s2).size ≤ 2330 := by rw [ByteArray.size_append, ByteArray.size_append, ByteArray.size_append]; omega
                  clear hs2 hcb
                  go_wp2_with fail
                  refine HC2.out.mono ?_; rintro e w3 ⟨rfl, hb3⟩
                  have HB3 := hide (HB2.out.low hb3)
                  clear hb3 HB2 HC2
                  go_wp2
                  go_roundw
                  case rel => exact ⟨b + 1, k + 1, _, R ++ [(b, c)], by go_num, by go_num, rfl, by omega, by have := HKR.out.1; omega, by have := HKR.out.2; simp; omega, Y4.out, hide (by rw [txtR_app, HT.out]; exact HSP.out.symm), HK2, hide (by rw [List.append_assoc]; show R ++ ((b, c) :: rsR [x0, x1, x2, x3] (b + 1)) = _; rw [← HRY.out]; exact HR.out), HB3⟩
                  case measure => simp [intOf]; omega
                · have qcb : ¬ (b : Int) < (c : Int) := by omega
                  obtain rfl : b = c := by omega
                  have Y4 := hide (show (s ++ s1).size ≤ 9 * (b + 1) by rw [ByteArray.size_append]; have := HSZ.out; omega)
                  clear hcb
                  go_wp2
                  go_roundw
                  case rel => exact ⟨b + 1, k + 1, _, R ++ [(b, b)], by go_num, by go_num, rfl, by omega, by have := HKR.out.1; omega, by have := HKR.out.2; simp; omega, Y4.out, hide (by rw [txtR_app, HT.out, span_one, HS1E.out]), HK2, hide (by rw [List.append_assoc]; show R ++ ((b, b) :: rsR [x0, x1, x2, x3] (b + 1)) = _; rw [← HRY.out]; exact HR.out), HB2⟩
                  case measure => simp [intOf]; omega

    · obtain rfl : b = 256 := by omega
      clear a0 a1 a2 a3
      have hR := HR.out
      rw [rs_end, List.append_nil] at hR
      have hM : manyR R = k := by
        have h1 := HK.out
        rw [hR, many_cB _ 256 0 (by omega), ← h1]
        unfold cB
        rw [show 256 - 256 = 0 from rfl]; rfl
      have HX := hide (show spansE [x0, x1, x2, x3] = if k = 0 then noneT else if k = 1 then R.flatMap spanT else 91 :: (R.flatMap spanT ++ [93]) by unfold spansE; rw [← hR, hM])
      clear hR hM
      by_cases h0 : k = 0
      · subst h0
        go_wp2
        go_ret
        exact StrP.mk (by rw [HX.out]; rfl) rfl HB.out.2
      have q0 : ((k : Int) == 0) = false := by simp; omega
      by_cases h1 : k = 1
      · subst h1
        go_wp2
        go_ret
        exact StrP.mk (by rw [HX.out, ← HT.out]; rfl) rfl HB.out.2
      have q1 : ((k : Int) == 1) = false := by simp; omega
      have y1 : ((⟨#[91]⟩ : ByteArray) ++ s).size ≤ 2305 := by rw [ByteArray.size_append]; have : (⟨#[91]⟩ : ByteArray).size = 1 := rfl; omega
      have y2 : (⟨#[91]⟩ : ByteArray).size = 1 := rfl
      have y3 : (⟨#[93]⟩ : ByteArray).size = 1 := rfl
      have HXX := hide (show (⟨#[91]⟩ : ByteArray) ++ s ++ ⟨#[93]⟩ = ⟨(spansE [x0, x1, x2, x3]).toArray⟩ by
        rw [HX.out, if_neg h0, if_neg h1, ← HT.out, show (⟨#[91]⟩ : ByteArray) = ⟨[91].toArray⟩ from rfl, show (⟨#[93]⟩ : ByteArray) = ⟨[93].toArray⟩ from rfl]; unfold txtR; rw [toArr_app, toArr_app]; rfl)
      clear h0 h1
      go_wp2
      go_ret
      exact StrP.mk HXX.out rfl HB.out.2
end Go.Proofs.YtfamoikmfbpigaaDoor
