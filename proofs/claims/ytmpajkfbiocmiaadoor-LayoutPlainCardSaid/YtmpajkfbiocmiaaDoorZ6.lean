/- Contracts of limnerlaw25.Great and seen. Plain: what is laid may be: a view's frame is valid. A row of styles of the call's own. Walk of the law LayoutValid. Plain: what is laid of a text of letters. Walk of the law LayoutPlain. Opening the bytes that come into LayoutPlain. -/
import Derived.Test.YtmpajkfbiocmiaaDoorZ5
import Derived.Laws.RangeString
import Derived.Test.YtmpajkfbiocmiaaDoorZ4
namespace Go.Proofs.YtmpajkfbiocmiaaDoor
open Go.RowKit

def frSA : Fr := frameY 3 8 ⟨#[97, 98, 99, 100, 101, 102, 103]⟩ [] 7 ⟨#[62, 32]⟩ ⟨#[46, 32]⟩
def frSB : Fr := frameY 3 8 ⟨#[97, 10, 98]⟩ [] 0 ⟨#[62, 32]⟩ ⟨#[46, 32]⟩
theorem frSA_row : frSA.rows = 3 ∧ frSA.cols = 8 ∧ frSA.cs.length = 24 ∧ frSA.row = 1 ∧ frSA.col = 1 := by decide +kernel
theorem frSB_row : frSB.rows = 3 ∧ frSB.cols = 8 ∧ frSB.cs.length = 24 ∧ frSB.row = 0 ∧ frSB.col = 2 := by decide +kernel
theorem frSA_rows : rowsF frSA = [⟨#[62, 32, 97, 98, 99, 100, 101, 102]⟩, ⟨#[103, 32, 32, 32, 32, 32, 32, 32]⟩, ⟨#[32, 32, 32, 32, 32, 32, 32, 32]⟩] := by decide +kernel
theorem frSB_rows : rowsF frSB = [⟨#[62, 32, 97, 32, 32, 32, 32, 32]⟩, ⟨#[46, 32, 98, 32, 32, 32, 32, 32]⟩, ⟨#[32, 32, 32, 32, 32, 32, 32, 32]⟩] := by decide +kernel
theorem fr_form {W : World} {B : Nat} {v : Value} {f : Fr} (h : FrOwn W B v f) {a b c d : Int} {n : Nat} (hf : f.rows = a ∧ f.cols = b ∧ f.cs.length = n ∧ f.row = c ∧ f.col = d) : ∃ A cap, v = .agg #[.int .i64 a, .int .i64 b, .slice A n cap, .int .i64 c, .int .i64 d] ∧ FrAt W v f := by
  have hat := h.at
  obtain ⟨A, cap, e, -, -⟩ := h
  refine ⟨A, cap, ?_, hat⟩
  rw [e]
  unfold frV
  rw [hf.1, hf.2.1, hf.2.2.1, hf.2.2.2.1, hf.2.2.2.2]
/-- grids.Rows of a frame whose rows are known: the first two of three. -/
theorem rows_two (f : Fr) (v : Value) (r0 r1 r2 : ByteArray) (hr : rowsF f = [r0, r1, r2]) (w : World) (h : FrAt w v f) (hT : WTabs w) :
    Calls Tryd.prog 9 #[v] w fun e w' => ∃ g c, e = .returned (.slice (some ⟨g, 0, none⟩) 3 c) ∧ w'.cell? ⟨g, 0, none⟩ = some (.string r0) ∧ w'.cell? ⟨g, 1, none⟩ = some (.string r1) ∧ Below w.heap.size w w' := by
  refine (rows_any f v w h hT).mono ?_
  rintro e w' ⟨v', rfl, ho, hb⟩
  rw [hr] at ho
  have ho2 : w'.ownsRow w.heap.size 9 1 v' 3 [.string r0, .string r1, .string r2] := ho
  rcases id ho2.2 with ⟨e, h0⟩ | ⟨g, cap, cur, rfl, -⟩
  · omega
  · exact ⟨g, cap, rfl, by rw [ho2.cellAt 0 (by omega)]; rfl, by rw [ho2.cellAt 1 (by omega)]; rfl, hb⟩
theorem keepR {b1 b2 c1 c2 : Nat} {A1 A2 : Option Addr} {w4 W V : World} (h : W.cell? ⟨b1, 0, none⟩ = some (.int .i64 3) ∧ W.cell? ⟨b1, 1, none⟩ = some (.int .i64 8) ∧ W.cell? ⟨b1, 2, none⟩ = some (.slice A1 24 c1) ∧ W.cell? ⟨b1, 3, none⟩ = some (.int .i64 1) ∧ W.cell? ⟨b1, 4, none⟩ = some (.int .i64 1) ∧ W.cell? ⟨b2, 0, none⟩ = some (.int .i64 3) ∧ W.cell? ⟨b2, 1, none⟩ = some (.int .i64 8) ∧ W.cell? ⟨b2, 2, none⟩ = some (.slice A2 24 c2) ∧ W.cell? ⟨b2, 3, none⟩ = some (.int .i64 0) ∧ W.cell? ⟨b2, 4, none⟩ = some (.int .i64 2) ∧ Hid (WTabs W ∧ Below w4.heap.size w4 W)) (hb : Below W.heap.size W V) : V.cell? ⟨b1, 0, none⟩ = some (.int .i64 3) ∧ V.cell? ⟨b1, 1, none⟩ = some (.int .i64 8) ∧ V.cell? ⟨b1, 2, none⟩ = some (.slice A1 24 c1) ∧ V.cell? ⟨b1, 3, none⟩ = some (.int .i64 1) ∧ V.cell? ⟨b1, 4, none⟩ = some (.int .i64 1) ∧ V.cell? ⟨b2, 0, none⟩ = some (.int .i64 3) ∧ V.cell? ⟨b2, 1, none⟩ = some (.int .i64 8) ∧ V.cell? ⟨b2, 2, none⟩ = some (.slice A2 24 c2) ∧ V.cell? ⟨b2, 3, none⟩ = some (.int .i64 0) ∧ V.cell? ⟨b2, 4, none⟩ = some (.int .i64 2) ∧ Hid (WTabs V ∧ Below w4.heap.size w4 V) := by
  obtain ⟨a0, a1, a2, a3, a4, d0, d1, d2, d3, d4, hh⟩ := h
  exact ⟨kcG hb a0, kcG hb a1, kcG hb a2, kcG hb a3, kcG hb a4, kcG hb d0, kcG hb d1, kcG hb d2, kcG hb d3, kcG hb d4, hide ⟨hh.out.1.below hb, hh.out.2.trans (hb.mono hh.out.2.size)⟩⟩
theorem sts_nil (W : World) : StsAt W none [] := fun j x h => by simp at h
set_option maxHeartbeats 4000000 in
set_option maxRecDepth 100000 in
theorem seen_any (w : World) (hE : EnvL w) (hBT : BTab w) (hg : LowG w.heap.size) : Calls Tryd.prog 6 #[] w fun e w' => e = .returned (.bool true) ∧ Below w.heap.size w w' := by
  have HFA := fun W hE hB hG => frame_any 3 8 ⟨#[97, 98, 99, 100, 101, 102, 103]⟩ none 0 0 7 ⟨#[62, 32]⟩ ⟨#[46, 32]⟩ [] W hE hB (sts_nil W) (fun b o e => by cases e) rfl (Nat.le_refl _) (by unfold maxLen; omega) (by omega) (by omega) (by omega) (by omega) (by decide) (by decide) (by decide) hG
  have HFB := fun W hE hB hG => frame_any 3 8 ⟨#[97, 10, 98]⟩ none 0 0 0 ⟨#[62, 32]⟩ ⟨#[46, 32]⟩ [] W hE hB (sts_nil W) (fun b o e => by cases e) rfl (Nat.le_refl _) (by unfold maxLen; omega) (by omega) (by omega) (by omega) (by omega) (by decide) (by decide) (by decide) hG
  have HFA := hide HFA
  have HFB := hide HFB
  have HE := hide hE
  have HBT := hide hBT
  have HG := hide hg
  have HB := hide (Below.refl w.heap.size w)
  clear hE hBT hg
  go_enter Tryd.func6, Tryd.ntmps6
  go_wp2_with fail
  refine (HFA.out w HE.out HBT.out HG.out).mono ?_; rintro e w1 ⟨v1, rfl, hf1, hb1⟩
  obtain ⟨A1, c1, rfl, hat1⟩ := fr_form hf1 frSA_row
  have HA1 := hide hat1
  have HE1 := hide (HE.out.below hb1)
  have HBT1 := hide (HBT.out.below hb1)
  have hl1 := hb1.size
  have HB1 := hide hb1
  clear hf1 hat1 hb1
  go_wp2_with fail
  have hb2 : Below w1.heap.size w1 (w1.alloc (.cells #[.int .i64 3, .int .i64 8, .slice A1 24 c1, .int .i64 1, .int .i64 1] 31)) := (Below.refl _ _).alloc (Nat.le_refl _) _
  have HK2 := hide (show Blk (w1.alloc (.cells #[.int .i64 3, .int .i64 8, .slice A1 24 c1, .int .i64 1, .int .i64 1] 31)) w1.heap.size 31 (frCells 3 8 (.slice A1 24 c1) 1 1) from Blk.new _ _ _)
  obtain ⟨b1, hb1⟩ : ∃ b, w1.heap.size = b := ⟨_, rfl⟩
  obtain ⟨w2, hw2⟩ : ∃ q, w1.alloc (.cells #[.int .i64 3, .int .i64 8, .slice A1 24 c1, .int .i64 1, .int .i64 1] 31) = q := ⟨_, rfl⟩
  rw [hw2] at hb2 HK2 ⊢
  rw [hb1] at HK2 ⊢
  have HE2 := hide (HE1.out.below hb2)
  have HBT2 := hide (HBT1.out.below hb2)
  have HA2 := hide (HA1.out.below hb2)
  have HB2 := hide (HB1.out.trans (hb2.mono HB1.out.size))
  have hl2 : w.heap.size ≤ w2.heap.size := HB2.out.size
  clear hb2 hw2 HA1 HE1 HBT1 HB1 hb1 hl1
  refine (HFB.out w2 HE2.out HBT2.out ⟨Nat.lt_of_lt_of_le HG.out.1 hl2, Nat.lt_of_lt_of_le HG.out.2.1 hl2, Nat.lt_of_lt_of_le HG.out.2.2.1 hl2, Nat.lt_of_lt_of_le HG.out.2.2.2.1 hl2, Nat.lt_of_lt_of_le HG.out.2.2.2.2 hl2⟩).mono ?_; rintro e w3 ⟨v2, rfl, hf2, hb3⟩
  obtain ⟨A2, c2, rfl, hat2⟩ := fr_form hf2 frSB_row
  have HA3 := hide hat2
  have HE3 := hide (HE2.out.below hb3)
  have HF3 := hide (HA2.out.below hb3)
  have HK3 := hide (HK2.out.below hb3)
  have HB3 := hide (HB2.out.trans (hb3.mono HB2.out.size))
  clear hf2 hat2 hb3 HE2 HBT2 HA2 HB2 HK2
  obtain ⟨e0, e1, e2, e3, e4, ef⟩ := fr_reads HK3.out
  go_wp2_with fail
  have hb4 : Below w3.heap.size w3 (w3.alloc (.cells #[.int .i64 3, .int .i64 8, .slice A2 24 c2, .int .i64 0, .int .i64 2] 31)) := (Below.refl _ _).alloc (Nat.le_refl _) _
  have HK4 := hide (show Blk (w3.alloc (.cells #[.int .i64 3, .int .i64 8, .slice A2 24 c2, .int .i64 0, .int .i64 2] 31)) w3.heap.size 31 (frCells 3 8 (.slice A2 24 c2) 0 2) from Blk.new _ _ _)
  obtain ⟨b2, hb2⟩ : ∃ b, w3.heap.size = b := ⟨_, rfl⟩
  obtain ⟨w4, hw4⟩ : ∃ q, w3.alloc (.cells #[.int .i64 3, .int .i64 8, .slice A2 24 c2, .int .i64 0, .int .i64 2] 31) = q := ⟨_, rfl⟩
  rw [hw4] at hb4 HK4 ⊢
  rw [hb2] at HK4 ⊢
  have HT4 := hide (HE3.out.below hb4).1
  have HFA4 := hide (HF3.out.below hb4)
  have HFB4 := hide (HA3.out.below hb4)
  have HKA4 := hide (HK3.out.below hb4)
  have HB4 := hide (HB3.out.trans (hb4.mono HB3.out.size))
  clear hb4 hw4 HE3 HF3 HA3 HK3 HB3 hb2 e0 e1 e2 e3 e4 ef
  have HR1 := hide (fun (v : Value) (W : World) (h : FrAt W v frSA) (hT : WTabs W) => rows_two frSA v _ _ _ frSA_rows W h hT)
  have HR2 := hide (fun (v : Value) (W : World) (h : FrAt W v frSB) (hT : WTabs W) => rows_two frSB v _ _ _ frSB_rows W h hT)
  obtain ⟨a0, a1, a2, a3, a4, -⟩ := fr_reads HKA4.out
  obtain ⟨d0, d1, d2, d3, d4, -⟩ := fr_reads HK4.out
  have HS0 := hide (keepR ⟨a0, a1, a2, a3, a4, d0, d1, d2, d3, d4, hide ⟨HT4.out, Below.refl w4.heap.size w4⟩⟩ (drew_b w4))
  clear a0 a1 a2 a3 a4 d0 d1 d2 d3 d4
  refine wp_region_held_drew (S := (fun W => W.cell? ⟨b1, 0, none⟩ = some (.int .i64 3) ∧ W.cell? ⟨b1, 1, none⟩ = some (.int .i64 8) ∧ W.cell? ⟨b1, 2, none⟩ = some (.slice A1 24 c1) ∧ W.cell? ⟨b1, 3, none⟩ = some (.int .i64 1) ∧ W.cell? ⟨b1, 4, none⟩ = some (.int .i64 1) ∧ W.cell? ⟨b2, 0, none⟩ = some (.int .i64 3) ∧ W.cell? ⟨b2, 1, none⟩ = some (.int .i64 8) ∧ W.cell? ⟨b2, 2, none⟩ = some (.slice A2 24 c2) ∧ W.cell? ⟨b2, 3, none⟩ = some (.int .i64 0) ∧ W.cell? ⟨b2, 4, none⟩ = some (.int .i64 2) ∧ Hid (WTabs W ∧ Below w4.heap.size w4 W))) (by kernel_rfl) ?_ (fun hHeld => ?_)
  · exact HS0.out
  refine wpAnyH_at (i := 0) (v := ?v0) (d := 17) rfl rfl (by kernel_rfl) (by kernel_rfl) (by kernel_rfl) (fun _ _ _ h => h) (Or.inl ⟨by rfl, fun w' hSw => ?hy0⟩) (by assumption) ?rest0
  case hy0 =>
    (try dsimp only at hSw)
    go_simp
    (try with_reducible rfl)
  (try simp only [Act.put, List.setIfInBounds_toArray, List.set_cons_zero, List.set_cons_succ])
  refine wpAnyH_at (i := 2) (v := ?v2) (d := 19) rfl rfl (by kernel_rfl) (by kernel_rfl) (by kernel_rfl) (fun _ _ _ h => h) (Or.inl ⟨by rfl, fun w' hSw => ?hy2⟩) (by assumption) ?rest2
  case hy2 =>
    (try dsimp only at hSw)
    go_simp
    (try with_reducible rfl)
  (try simp only [Act.put, List.setIfInBounds_toArray, List.set_cons_zero, List.set_cons_succ])
  refine wpAnyH_ready (rs := [1]) (by kernel_rfl) (by simp) ?_
  refine AllReadyH.cons rfl (fun K' hK' => ?_) AllReadyH.nil
  go_simp
  refine (HR1.out _ _ (HFA4.out.below hHeld.2.2.2.2.2.2.2.2.2.2.out.2) hHeld.2.2.2.2.2.2.2.2.2.2.out.1).mono ?_
  rintro e w5 ⟨g5, k5, rfl, y0, y1, hb9⟩
  go_wp2_with fail
  refine hK'.out _ _ ?_ (fun hHeld => ?_)
  · exact keepR (by assumption) hb9
  clear hK' K'
  (try simp only [Act.put, List.getElem_toArray, List.getElem_cons_succ, List.getElem_cons_zero, List.setIfInBounds_toArray, List.set_cons_zero, List.set_cons_succ])
  refine wpAnyH_ready (rs := [3]) (by kernel_rfl) (by simp) ?_
  refine AllReadyH.cons rfl (fun K' hK' => ?_) AllReadyH.nil
  go_simp
  have hHeld9 := hHeld
  refine (HR2.out _ _ (HFB4.out.below hHeld.2.2.2.2.2.2.2.2.2.2.out.2) hHeld.2.2.2.2.2.2.2.2.2.2.out.1).mono ?_
  rintro e w6 ⟨g6, k6, rfl, z0, z1, hb9⟩
  go_wp2_with fail
  refine hK'.out _ _ ?_ (fun hHeld => ?_)
  · exact keepR hHeld9 hb9
  clear hK' K'
  (try simp only [Act.put, List.getElem_toArray, List.getElem_cons_succ, List.getElem_cons_zero, List.setIfInBounds_toArray, List.set_cons_zero, List.set_cons_succ])
  replace y0 := kcG hb9 y0
  replace y1 := kcG hb9 y1
  refine wpAnyH_at (i := 4) (v := ?v4) (d := 5) rfl rfl (by kernel_rfl) (by kernel_rfl) (by kernel_rfl) (fun _ _ _ h => h) (Or.inl ⟨by rfl, fun w' hSw => ?hy4⟩) (by assumption) ?rest4
  case hy4 =>
    (try dsimp only at hSw)
    go_simp
    (try with_reducible rfl)
  (try simp only [Act.put, List.setIfInBounds_toArray, List.set_cons_zero, List.set_cons_succ])
  refine wpAnyH_at (i := 5) (v := ?v5) (d := 6) rfl rfl (by kernel_rfl) (by kernel_rfl) (by kernel_rfl) (fun _ _ _ h => h) (Or.inl ⟨by rfl, fun w' hSw => ?hy5⟩) (by assumption) ?rest5
  case hy5 =>
    (try dsimp only at hSw)
    go_simp
    (try with_reducible rfl)
  (try simp only [Act.put, List.setIfInBounds_toArray, List.set_cons_zero, List.set_cons_succ])
  refine wpAnyH_done (by kernel_rfl) ?_ _
  obtain ⟨a0, a1, a2, a3, a4, d0, d1, d2, d3, d4, hh⟩ := hHeld
  have HBF := hide (HB4.out.trans (hh.out.2.mono HB4.out.size))
  clear hh
  go_wp2
  go_ret
  exact ⟨by first | rfl | decide, HBF.out⟩
theorem great_any (s : ByteArray) (A : Option Addr) (n cap : Nat) (cur : Int) (pr mo : ByteArray) (w : World) (hn : n ≤ cap) (hc : cap ≤ maxLen) (hs : s.size ≤ maxLen) (hp : pr.size ≤ maxLen) (hm : mo.size ≤ maxLen) (b : Bool) (hb : b = decide (600 < s.size ∨ 700 < n ∨ 60 < pr.size ∨ 60 < mo.size)) :
    Calls Tryd.prog 5 #[.agg #[.string s, .slice A n cap, .int .i64 cur, .string pr, .string mo]] w fun e w' => e = .returned (.bool b) ∧ Below w.heap.size w w' := by
  unfold maxLen at *
  have HB := hide (show Below w.heap.size w (w.alloc (.cells #[.string s, .slice A n cap, .int .i64 cur, .string pr, .string mo] 24)) from (Below.refl _ _).alloc (Nat.le_refl _) _)
  by_cases h1 : 600 < s.size
  · have HX := hide (show b = true by rw [hb]; simp [h1])
    have h1' : (600 : Int) < (s.size : Int) := by omega
    clear hb
    go_enter Tryd.func5, Tryd.ntmps5
    go_wp2
    go_ret
    exact ⟨by rw [HX.out]; rfl, HB.out⟩
  by_cases h2 : 700 < n
  · have HX := hide (show b = true by rw [hb]; simp [h2])
    have h1' : ¬ (600 : Int) < (s.size : Int) := by omega
    have h2' : (700 : Int) < (n : Int) := by omega
    clear hb
    go_enter Tryd.func5, Tryd.ntmps5
    go_wp2
    go_ret
    exact ⟨by rw [HX.out]; rfl, HB.out⟩
  by_cases h3 : 60 < pr.size
  · have HX := hide (show b = true by rw [hb]; simp [h3])
    have h1' : ¬ (600 : Int) < (s.size : Int) := by omega
    have h2' : ¬ (700 : Int) < (n : Int) := by omega
    have h3' : (60 : Int) < (pr.size : Int) := by omega
    clear hb
    go_enter Tryd.func5, Tryd.ntmps5
    go_wp2
    go_ret
    exact ⟨by rw [HX.out]; rfl, HB.out⟩
  have h1' : ¬ (600 : Int) < (s.size : Int) := by omega
  have h2' : ¬ (700 : Int) < (n : Int) := by omega
  have h3' : ¬ (60 : Int) < (pr.size : Int) := by omega
  by_cases h4 : 60 < mo.size
  · have HX := hide (show b = true by rw [hb]; simp [h4])
    have h4' : (60 : Int) < (mo.size : Int) := by omega
    clear hb
    go_enter Tryd.func5, Tryd.ntmps5
    go_wp2
    go_ret
    exact ⟨by rw [HX.out]; rfl, HB.out⟩
  · have HX := hide (show b = false by rw [hb]; simp; omega)
    have h4' : ¬ (60 : Int) < (mo.size : Int) := by omega
    clear hb
    go_enter Tryd.func5, Tryd.ntmps5
    go_wp2
    go_ret
    exact ⟨by rw [HX.out]; rfl, HB.out⟩
end Go.Proofs.YtmpajkfbiocmiaaDoor
namespace Go.Proofs.YtmpajkfbiocmiaaDoor

theorem cellB_more {p : Option Cl} {c : Cl} (h : cellB p c none = true) (n : Option Cl) : cellB p c n = true := by
  unfold cellB at *
  simp only [Bool.and_eq_true, Bool.or_eq_true, Option.any_none, Bool.false_eq_true, or_false] at *
  exact ⟨⟨h.1.1, .inl h.1.2⟩, h.2⟩
/-- Each cell of the sheet may be. -/
def GoodY (C : Nat) (L : List Cl) : Prop := ∀ i c, L[i]? = some c → okAt L C i c = true
theorem good_nil (C : Nat) : GoodY C [] := fun i c h => by simp at h
theorem ok_snoc {C : Nat} {L : List Cl} (h : GoodY C L) (x : Cl) {i : Nat} {c : Cl} (hi : L[i]? = some c) : okAt (L ++ [x]) C i c = true := by
  have h0 := h i c hi
  have hlt := (List.getElem?_eq_some_iff.1 hi).1
  unfold okAt at *
  rw [List.getElem?_append_left (show i - 1 < L.length by omega)]
  by_cases hC : i % C = C - 1
  · rw [if_pos hC] at *; exact h0
  · rw [if_neg hC] at *
    by_cases hn : i + 1 < L.length
    · rw [List.getElem?_append_left hn]; exact h0
    · rw [List.getElem?_eq_none (show L.length ≤ i + 1 by omega)] at h0
      exact cellB_more h0 _
theorem good_snoc {C : Nat} {L : List Cl} (h : GoodY C L) {x : Cl} (hx : okAt (L ++ [x]) C L.length x = true) : GoodY C (L ++ [x]) := by
  intro i c hi
  by_cases hl : i < L.length
  · rw [List.getElem?_append_left hl] at hi
    exact ok_snoc h x hi
  · have := (List.getElem?_eq_some_iff.1 hi).1
    simp at this
    obtain rfl : i = L.length := by omega
    obtain rfl : x = c := by simpa using hi
    exact hx
theorem good_one {C : Nat} {L : List Cl} (h : GoodY C L) {x : Cl} (hw : x.w = 1) (hr : cells x.r = 1) (hs : styC x = true) : GoodY C (L ++ [x]) := by
  refine good_snoc h ?_
  unfold okAt
  rw [cell_1 hw, hr, hs]; rfl
def StyOk (s : Sty) : Prop := 0 ≤ s.1 ∧ s.1 ≤ 8
theorem sty_mk {r w : Int} {s : Sty} (h : StyOk s) : styC (mkC r w s) = true := decide_eq_true h
theorem cell_32 : cells 32 = 1 := by decide +kernel
theorem good_blank {C : Nat} {L : List Cl} (h : GoodY C L) : GoodY C (L ++ [blankC]) := good_one h rfl cell_32 rfl
theorem good_rep {C : Nat} {L : List Cl} (h : GoodY C L) {x : Cl} (hw : x.w = 1) (hr : cells x.r = 1) (hs : styC x = true) : ∀ n, GoodY C (L ++ List.replicate n x)
  | 0 => by simpa using h
  | n + 1 => by rw [← rep_snoc]; exact good_one (good_rep h hw hr hs n) hw hr hs
theorem good_two {C : Nat} {L : List Cl} (h : GoodY C L) (hC : 2 ≤ C) (hm : L.length % C ≠ C - 1) {r : Int} {s : Sty} (hr : cells r = 2) (hs : StyOk s) : GoodY C (L ++ [mkC r 2 s] ++ [mkC 0 0 s]) := by
  have hlen : (L ++ [mkC r 2 s]).length = L.length + 1 := by simp
  have hlt : L.length % C < C := Nat.mod_lt _ (by omega)
  have hm1 : (L.length + 1) % C ≠ 0 := by
    rw [Nat.add_mod, Nat.mod_eq_of_lt (show 1 < C by omega)]
    rw [Nat.mod_eq_of_lt (by omega)]
    omega
  intro i c hi
  by_cases hl : i < L.length
  · rw [List.getElem?_append_left (by omega), List.getElem?_append_left hl] at hi
    have h0 := h i c hi
    unfold okAt at *
    rw [List.getElem?_append_left (show i - 1 < (L ++ [mkC r 2 s]).length by omega), List.getElem?_append_left (show i - 1 < L.length by omega)]
    by_cases hC1 : i % C = C - 1
    · rw [if_pos hC1] at *; exact h0
    · rw [if_neg hC1] at *
      by_cases hn : i + 1 < L.length
      · rw [List.getElem?_append_left (by omega), List.getElem?_append_left hn]; exact h0
      · rw [List.getElem?_eq_none (show L.length ≤ i + 1 by omega)] at h0
        exact cellB_more h0 _
  · by_cases hl2 : i = L.length
    · subst hl2
      obtain rfl : mkC r 2 s = c := by simpa using hi
      unfold okAt
      rw [cell_2 rfl, if_neg hm]
      rw [show (L ++ [mkC r 2 s] ++ [mkC 0 0 s])[L.length + 1]? = some (mkC 0 0 s) by rw [List.getElem?_append_right (by omega), hlen]; simp]
      rw [sty_mk hs, show (mkC r 2 s).r = r from rfl, hr]
      rfl
    · have := (List.getElem?_eq_some_iff.1 hi).1
      simp at this
      obtain rfl : i = L.length + 1 := by omega
      rw [List.getElem?_append_right (by omega), hlen] at hi
      obtain rfl : mkC 0 0 s = c := by simpa using hi
      unfold okAt
      rw [cell_0 rfl, if_neg hm1]
      rw [show (L ++ [mkC r 2 s] ++ [mkC 0 0 s])[L.length + 1 - 1]? = some (mkC r 2 s) by simp]
      rw [sty_mk hs]
      simp [mkC, styE]
theorem good_fits {C : Nat} {L : List Cl} (h : GoodY C L) (r : Int) : GoodY C (fitsY C L r) := by
  unfold fitsY
  split
  · exact good_blank h
  · exact h
theorem fits_room2 {C : Nat} (hC : 2 ≤ C) (L : List Cl) {r : Int} (hr : cells r = 2) : (fitsY C L r).length % C ≠ C - 1 := by
  have h9 : r ≠ 9 := by rintro rfl; revert hr; decide +kernel
  have h10 : r ≠ 10 := by rintro rfl; revert hr; decide +kernel
  unfold fitsY
  by_cases hm : L.length % C = C - 1
  · rw [if_pos ⟨h9, h10, hr, hm⟩]
    rw [List.length_append, List.length_singleton, Nat.add_mod, hm, Nat.mod_eq_of_lt (show 1 < C by omega), show C - 1 + 1 = C by omega, Nat.mod_self]
    omega
  · rw [if_neg (fun e => hm e.2.2.2)]; exact hm
theorem shown_bd (r : Int) : cells (shown r) = 1 ∨ (cells (shown r) = 2 ∧ shown r = r) := by
  unfold shown
  have hb := cells_bd r
  by_cases h : cells r = 0
  · rw [if_pos h]; left; decide +kernel
  · rw [if_neg h]
    by_cases h2 : cells r = 2
    · exact .inr ⟨h2, rfl⟩
    · left; omega
theorem good_rune {C : Nat} (hC : 2 ≤ C) {L : List Cl} (h : GoodY C L) (r : Int) {s : Sty} (hs : StyOk s) : GoodY C (runeY C L r s) := by
  unfold runeY
  split
  · exact good_rep h rfl cell_32 (sty_mk hs) _
  · rcases shown_bd r with h1 | ⟨h2, he⟩
    · rw [h1]
      unfold putY
      rw [if_neg (by decide)]
      exact good_one (good_fits h r) rfl h1 (sty_mk hs)
    · rw [h2]
      unfold putY
      rw [if_pos (by decide)]
      have hr : cells r = 2 := by rw [he] at h2; exact h2
      exact good_two (good_fits h r) hC (fits_room2 hC L hr) h2 hs
theorem sty_no : StyOk noSt := ⟨by decide, by decide⟩
theorem good_prom {C : Nat} (hC : 2 ≤ C) (s : ByteArray) : ∀ f pos L, GoodY C L → GoodY C (promY C s f pos L)
  | 0, _, L, h => h
  | f + 1, pos, L, h => by
    unfold promY
    split
    · refine good_prom hC s f _ _ ?_
      split
      · exact h
      · exact good_rune hC h _ sty_no
    · exact h
theorem good_line {C : Nat} {L : List Cl} (h : GoodY C L) : GoodY C (lineY C L) := good_rep h rfl cell_32 rfl _
theorem sty_at {Ss : List Sty} (h : ∀ x ∈ Ss, StyOk x) (i : Nat) : StyOk (styAt Ss i) := by
  unfold styAt
  cases e : Ss[i]? with
  | none => exact sty_no
  | some x => exact h x (List.mem_of_getElem? e)
theorem good_lay {C : Nat} (hC : 2 ≤ C) {s mo : ByteArray} {Ss : List Sty} (hS : ∀ x ∈ Ss, StyOk x) {at0 : Nat} : ∀ f i L cur, GoodY C L → GoodY C (layY C s mo Ss at0 f i L cur).1
  | 0, _, L, _, h => h
  | f + 1, i, L, cur, h => by
    unfold layY
    split
    · refine good_lay hC hS f _ _ _ ?_
      split
      · exact good_prom hC _ _ _ _ (good_line (good_fits h _))
      · exact good_rune hC (good_fits h _) _ (sty_at hS i)
    · exact h
theorem good_view {C : Nat} (hC : 2 ≤ C) (s : ByteArray) {Ss : List Sty} (hS : ∀ x ∈ Ss, StyOk x) (cur : Int) (pr mo : ByteArray) : GoodY C (viewY C s Ss cur pr mo).1 := by
  unfold viewY
  exact good_lay hC hS _ _ _ _ (good_prom hC _ _ _ _ (good_nil C))
theorem good_cp {C R t : Nat} (hC : 2 ≤ C) {L : List Cl} (h : GoodY C L) : validL (cpY L (t * C) (R * C) (R * C)) R C = true := by
  rw [valid_cells _ R C (by omega) (cpY_len _ _ _ _)]
  intro j c hj
  have hlt : j < R * C := by have := (List.getElem?_eq_some_iff.1 hj).1; rwa [cpY_len] at this
  have ho := hj
  rw [cpY_at hlt, if_pos hlt] at hj
  have hjm : j % C < C := Nat.mod_lt _ (by omega)
  have hm : (t * C + j) % C = j % C := by rw [Nat.add_comm, Nat.add_mul_mod_self_right]
  by_cases hin : t * C + j < L.length
  · have hL : L[t * C + j]? = some c := by
      rw [List.getElem?_eq_getElem hin] at hj ⊢
      simpa using hj
    have h0 := h _ _ hL
    unfold okAt at *
    rw [hm] at h0
    have hp : (if j % C = 0 then none else (cpY L (t * C) (R * C) (R * C))[j - 1]?) = (if j % C = 0 then none else L[t * C + j - 1]?) := by
      by_cases hz : j % C = 0
      · rw [if_pos hz, if_pos hz]
      · have hj0 : 0 < j := by
          rcases Nat.eq_zero_or_pos j with e | e
          · rw [e] at hz; simp at hz
          · exact e
        rw [if_neg hz, if_neg hz, cpY_at (by omega), if_pos (by omega), show t * C + (j - 1) = t * C + j - 1 by omega, List.getElem?_eq_getElem (show t * C + j - 1 < L.length by omega)]
        rfl
    rw [hp]
    by_cases hC1 : j % C = C - 1
    · rw [if_pos hC1] at *; exact h0
    · rw [if_neg hC1] at *
      have hj1 : j + 1 < R * C := by
        have e1 : C * (j / C) + j % C = j := Nat.div_add_mod j C
        have e2 : j / C < R := by rw [Nat.div_lt_iff_lt_mul (by omega)]; exact hlt
        have e3 : C * (j / C) + C ≤ R * C := by
          have := Nat.mul_le_mul_left C (show j / C + 1 ≤ R by omega)
          rw [Nat.mul_add, Nat.mul_one, Nat.mul_comm C R] at this
          exact this
        omega
      rw [cpY_at hj1, if_pos hj1, show t * C + (j + 1) = t * C + j + 1 by omega]
      by_cases hn : t * C + j + 1 < L.length
      · rw [List.getElem?_eq_getElem hn] at *
        exact h0
      · rw [List.getElem?_eq_none (show L.length ≤ t * C + j + 1 by omega)] at h0
        rw [List.getElem?_eq_none (show L.length ≤ t * C + j + 1 by omega)]
        exact cellB_more h0 _
  · rw [List.getElem?_eq_none (by omega)] at hj
    obtain rfl : blankC = c := by simpa using hj
    unfold okAt
    rw [cell_1 rfl]
    decide +kernel
theorem frame_cur (R C : Nat) (q m : Nat) (hR : 2 ≤ R) : q - (q + 1 - R) < R := by omega
theorem frame_valid {R C : Nat} (hR : 2 ≤ R) (hR2 : R ≤ 100) (hC : 8 ≤ C) (hC2 : C ≤ 200) (s : ByteArray) {Ss : List Sty} (hS : ∀ x ∈ Ss, StyOk x) (cur : Int) (pr mo : ByteArray) : validF (frameY R C s Ss cur pr mo) = true := by
  have hg := good_cp (R := R) (t := (viewY C s Ss cur pr mo).2 / C + 1 - R) (by omega) (good_view (C := C) (by omega) s hS cur pr mo)
  have h1 := frame_cur R C ((viewY C s Ss cur pr mo).2 / C) 0 hR
  have h2 : (viewY C s Ss cur pr mo).2 % C < C := Nat.mod_lt _ (by omega)
  unfold validF frameY
  simp only [Bool.and_eq_true]
  refine ⟨⟨⟨?_, ?_⟩, ?_⟩, ?_⟩
  · simp [mayB]; omega
  · simp [sizeB, cpY_len]
  · unfold curB
    simp only [decide_eq_true_eq]
    omega
  · simpa using hg
end Go.Proofs.YtmpajkfbiocmiaaDoor
namespace Go.Proofs.YtmpajkfbiocmiaaDoor
open Go.RowKit

def flatT (L : List Sty) : List Value := L.flatMap styL
theorem flatT_len (L : List Sty) : (flatT L).length = L.length * 4 := by
  unfold flatT
  induction L with
  | nil => rfl
  | cons a l ih => simp only [List.flatMap_cons, List.length_append, styL, List.length_cons, List.length_nil] at ih ⊢; omega
theorem flatT_at (L : List Sty) (j : Nat) (c : Sty) (h : L[j]? = some c) (i : Nat) (hi : i < 4) : (flatT L)[j * 4 + i]? = (styL c)[i]? := by
  induction L generalizing j with
  | nil => simp at h
  | cons a l ih =>
    unfold flatT at ih ⊢
    rw [List.flatMap_cons]
    cases j with
    | zero =>
      obtain rfl : a = c := by simpa using h
      rw [List.getElem?_append_left (by simp [styL]; omega), Nat.zero_mul, Nat.zero_add]
    | succ j =>
      rw [List.getElem?_append_right (by simp [styL]; omega), show (j + 1) * 4 + i - (styL a).length = j * 4 + i by simp [styL]; omega]
      exact ih j (by simpa using h)
theorem flatT_fg (L : List Sty) (j : Nat) (c : Sty) (h : L[j]? = some c) (x : Int) : (flatT L).set (j * 4) (.int .i64 x) = flatT (L.set j (x, c.2)) := by
  induction L generalizing j with
  | nil => simp at h
  | cons a l ih =>
    unfold flatT at ih ⊢
    cases j with
    | zero =>
      obtain rfl : a = c := by simpa using h
      simp only [List.flatMap_cons, List.set_cons_zero, Nat.zero_mul, styL]
      rfl
    | succ j =>
      have ih := ih j (by simpa using h)
      simp only [List.flatMap_cons, List.set_cons_succ] at ih ⊢
      rw [← ih, List.set_append_right _ _ (by simp [styL]; omega), show (j + 1) * 4 - (styL a).length = j * 4 by simp [styL]; omega]
theorem flatT_set (L : List Sty) (j : Nat) (c : Sty) (h : j < L.length) : ((((flatT L).set (j * 4) (.int .i64 c.1)).set (j * 4 + 1) (.bool c.2.1)).set (j * 4 + 2) (.bool c.2.2.1)).set (j * 4 + 3) (.bool c.2.2.2) = flatT (L.set j c) := by
  induction L generalizing j with
  | nil => simp at h
  | cons a l ih =>
    cases j with
    | zero =>
      simp only [flatT, List.flatMap_cons, styL, List.set_cons_zero]
      rfl
    | succ j =>
      have ih := ih j (by simpa using h)
      simp only [flatT, List.flatMap_cons, List.set_cons_succ] at ih ⊢
      rw [← ih]
      have e : ∀ (x : List Value) (q : Nat) (u : Value), (styL a ++ x).set ((j + 1) * 4 + q) u = styL a ++ x.set (j * 4 + q) u := by
        intro x q u
        rw [List.set_append_right _ _ (by simp [styL]; omega), show (j + 1) * 4 + q - (styL a).length = j * 4 + q by simp [styL]; omega]
      have e0 := e (l.flatMap styL) 0 (.int .i64 c.1)
      simp only [Nat.add_zero] at e0
      rw [e0, e, e, e]
def OwnT (W : World) (B : Nat) (v : Value) (L : List Sty) : Prop := W.ownsRow B 28 4 v L.length (flatT L)
theorem OwnT.below {w W : World} {B : Nat} {v : Value} {L : List Sty} (h : OwnT w B v L) (hb : Below w.heap.size w W) : OwnT W B v L := by
  refine ⟨h.1, ?_⟩
  rcases h.2 with h0 | ⟨g, cap, cur, rfl, hg, hh, q⟩
  · exact .inl h0
  · exact .inr ⟨g, cap, cur, rfl, hg, (hb.block g (Array.getElem?_eq_some_iff.1 hh).1).trans hh, q⟩
theorem OwnT.far {w W : World} {B g n c : Nat} {L : List Sty} (h : OwnT w B (.slice (some ⟨g, 0, none⟩) n c) L) (hb : W.heap[g]? = w.heap[g]?) : OwnT W B (.slice (some ⟨g, 0, none⟩) n c) L := by
  refine ⟨h.1, ?_⟩
  rcases h.2 with ⟨e, h0⟩ | ⟨g', cap, cur, e, hg, hh, q⟩
  · cases e
  · injection e with e e2 e3
    injection e with e
    injection e with e
    subst e
    exact .inr ⟨g, cap, cur, by rw [e2, e3], hg, hb.trans hh, q⟩
theorem OwnT.sts {W : World} {B g n c : Nat} {L : List Sty} (h : OwnT W B (.slice (some ⟨g, 0, none⟩) n c) L) : StsAt W (some ⟨g, 0, none⟩) L ∧ g < W.heap.size := by
  have h2 := h
  rcases h.2 with ⟨e, h0⟩ | ⟨g', cap, cur, e, hg, hh, q⟩
  · cases e
  · injection e with e e2 e3
    injection e with e
    injection e with e
    subst e e2
    have hlt : g < W.heap.size := (Array.getElem?_eq_some_iff.1 hh).1
    refine ⟨fun j x hj => ⟨g, 0, rfl, hlt, fun i u hu => ?_⟩, hlt⟩
    have hl := (List.getElem?_eq_some_iff.1 hj).1
    have hi : i < 4 := by have := (List.getElem?_eq_some_iff.1 hu).1; simpa [styL] using this
    have := World.ownsRow.cellAt h2 (j * 4 + i) (by omega)
    rw [Nat.zero_add, this, flatT_at L j x hj i hi, hu]
theorem OwnT.frozen {W : World} {B g n c : Nat} {L : List Sty} (h : OwnT W B (.slice (some ⟨g, 0, none⟩) n c) L) (i : Nat) : W.frozen? ⟨g, i, none⟩ = false := by
  rcases h.2 with ⟨e, h0⟩ | ⟨g', cap, cur, e, hg, hh, r⟩
  · cases e
  · injection e with e; injection e with e; injection e with e; subst e
    simp [World.frozen?, hh]
theorem OwnT.set {W : World} {B g n c : Nat} {L : List Sty} (h : OwnT W B (.slice (some ⟨g, 0, none⟩) n c) L) (hn : L.length = n) {j : Nat} (hj : j < n) (x : Sty) :
    OwnT ((((W.setCell ⟨g, j * 4, none⟩ (.int .i64 x.1)).setCell ⟨g, j * 4 + 1, none⟩ (.bool x.2.1)).setCell ⟨g, j * 4 + 2, none⟩ (.bool x.2.2.1)).setCell ⟨g, j * 4 + 3, none⟩ (.bool x.2.2.2)) B (.slice (some ⟨g, 0, none⟩) n c) (L.set j x) := by
  subst hn
  have h4 := ((((h.stored (j * 4) (.int .i64 x.1)).1.stored (j * 4 + 1) (.bool x.2.1)).1.stored (j * 4 + 2) (.bool x.2.2.1)).1.stored (j * 4 + 3) (.bool x.2.2.2)).1
  rw [flatT_set L j x hj] at h4
  unfold OwnT
  rw [List.length_set]
  exact h4
theorem OwnT.fg {W : World} {B g n c : Nat} {L : List Sty} (h : OwnT W B (.slice (some ⟨g, 0, none⟩) n c) L) (hn : L.length = n) {j : Nat} {x : Sty} (hj : L[j]? = some x) (y : Int) :
    OwnT (W.setCell ⟨g, j * 4, none⟩ (.int .i64 y)) B (.slice (some ⟨g, 0, none⟩) n c) (L.set j (y, x.2)) := by
  subst hn
  have h4 := (h.stored (j * 4) (.int .i64 y)).1
  rw [flatT_fg L j x hj] at h4
  unfold OwnT
  rw [List.length_set]
  exact h4
theorem set_b (W : World) (g o : Nat) (v : Value) {b : Nat} (h : b ≠ g) : (W.setCell ⟨g, o, none⟩ v).heap[b]? = W.heap[b]? := Below.heap_setCell _ _ _ _ h
theorem made_sty (n : Nat) : (madeCells #[.int .i64 0, .bool false, .bool false, .bool false] (n * 4)).toList = flatT (List.replicate n noSt) := by
  apply List.ext_getElem?
  intro j
  by_cases hj : j < n * 4
  · have h6 := flatT_at (List.replicate n noSt) (j / 4) noSt (by rw [List.getElem?_replicate, if_pos (by omega)]) (j % 4) (Nat.mod_lt _ (by omega))
    rw [show j / 4 * 4 + j % 4 = j by omega] at h6
    rw [h6]
    have hm : j % 4 < 4 := Nat.mod_lt _ (by omega)
    simp only [madeCells, Array.toList_map, Array.toList_range, List.getElem?_map, List.getElem?_range hj, Option.map_some]
    obtain ⟨m, e⟩ : ∃ m, j % 4 = m := ⟨_, rfl⟩
    rw [show (#[.int .i64 0, .bool false, .bool false, .bool false] : Array Value).size = 4 from rfl, e]
    rw [e] at hm
    have : m = 0 ∨ m = 1 ∨ m = 2 ∨ m = 3 := by omega
    rcases this with rfl | rfl | rfl | rfl <;> rfl
  · rw [List.getElem?_eq_none (by simp [size_madeCells]; omega), List.getElem?_eq_none (by rw [flatT_len]; simp; omega)]
theorem infoT : (Tryd.prog.info? 28).map (fun i => (i.zero, i.size, i.bytes)) = some (some (.agg #[.int .i64 0, .bool false, .bool false, .bool false]), 4, 16) := by kernel_rfl
theorem zT : Value.cells (.agg #[.int .i64 0, .bool false, .bool false, .bool false]) = #[.int .i64 0, .bool false, .bool false, .bool false] := by rfl
theorem ownT_of {W : World} {B n : Nat} {v : Value} {L : List Sty} (hn : L.length = n) (h : W.ownsRow B 28 4 v n (flatT L)) : OwnT W B v L := by
  subst hn; exact h
end Go.Proofs.YtmpajkfbiocmiaaDoor
namespace Go.Proofs.YtmpajkfbiocmiaaDoor
open Go.RowKit

theorem LowG.up {p q : Nat} (h : LowG p) (hq : p ≤ q) : LowG q := ⟨Nat.lt_of_lt_of_le h.1 hq, Nat.lt_of_lt_of_le h.2.1 hq, Nat.lt_of_lt_of_le h.2.2.1 hq, Nat.lt_of_lt_of_le h.2.2.2.1 hq, Nat.lt_of_lt_of_le h.2.2.2.2 hq⟩
theorem and_7 (y : Int) : bits .and .i64 y 7 = (((y % 8).toNat : Nat) : Int) := by
  unfold bits
  simp only [BitVec.toNat_and, BitVec.toNat_ofInt]
  have e : ((7 : Int) % ((2 ^ IntKind.i64.bits : Nat) : Int)).toNat = 2 ^ 3 - 1 := by decide
  have e2 : ((2 ^ IntKind.i64.bits : Nat) : Int) = 18446744073709551616 := by decide
  rw [e, Nat.and_two_pow_sub_one_eq_mod, e2]
  rw [Go.wrap_small _ (by omega) (by omega)]
  omega
theorem sty_7 (y : Int) (bo un iv : Bool) : StyOk (bits .and .i64 y 7, bo, un, iv) := by
  rw [and_7]
  exact ⟨by show (0 : Int) ≤ ((y % 8).toNat : Int); omega, by show (((y % 8).toNat : Nat) : Int) ≤ 8; omega⟩
theorem sts_set {T : List Sty} {n i : Nat} {x : Sty} (h : T.length = n ∧ ∀ x ∈ T, StyOk x) (hx : StyOk x) : (T.set i x).length = n ∧ ∀ y ∈ T.set i x, StyOk y :=
  ⟨by rw [List.length_set]; exact h.1, fun y hy => (List.mem_or_eq_of_mem_set hy).elim (h.2 y) (fun e => e ▸ hx)⟩
theorem frame_facts {R C : Nat} (hR : 2 ≤ R) (hR2 : R ≤ 100) (hC : 8 ≤ C) (hC2 : C ≤ 200) (s : ByteArray) {Ss : List Sty} (hS : ∀ x ∈ Ss, StyOk x) (cur : Int) (pr mo : ByteArray) :
    ∃ f, frameY R C s Ss cur pr mo = f ∧ validF f = true ∧ f.rows = R ∧ f.cols = C ∧ f.cs.length = R * C ∧ 0 ≤ f.row ∧ f.row < R ∧ 0 ≤ f.col ∧ f.col < C := by
  refine ⟨_, rfl, frame_valid hR hR2 hC hC2 s hS cur pr mo, rfl, rfl, cpY_len _ _ _ _, ?_⟩
  have h1 := frame_cur R C ((viewY C s Ss cur pr mo).2 / C) 0 hR
  have h2 : (viewY C s Ss cur pr mo).2 % C < C := Nat.mod_lt _ (by omega)
  unfold frameY
  dsimp only
  omega
set_option maxHeartbeats 4000000 in
set_option maxRecDepth 100000 in
theorem LayoutValid_any (s : ByteArray) (A : Option Addr) (n cap : Nat) (cur : Int) (pr mo : ByteArray) (Ss : List Sty) (a b : Int) (w : World) (hE : EnvL w) (hBT : BTab w) (hG : LowG w.heap.size) (hA : StsAt w A Ss) (hn : Ss.length = n) (hc : n ≤ cap) (hc2 : cap ≤ maxLen) (hs : s.size ≤ maxLen) (hp : pr.size ≤ maxLen) (hm : mo.size ≤ maxLen) (ha : 0 ≤ a ∧ a ≤ 255) (hb : 0 ≤ b ∧ b ≤ 255) :
    Calls Tryd.prog 3 #[.agg #[.string s, .slice A n cap, .int .i64 cur, .string pr, .string mo], .int .u8 a, .int .u8 b] w fun e w' => e = .returned (.bool true) ∧ Below w.heap.size w w' := by
  have HGR := hide (fun W => great_any s A n cap cur pr mo W hc hc2 hs hp hm)
  unfold maxLen at *
  have hb0 : Below w.heap.size w (w.alloc (.cells (vwL s A n cap cur pr mo).toArray 24)) := (Below.refl _ _).alloc (Nat.le_refl _) _
  obtain ⟨W0, hW0⟩ : ∃ W, w.alloc (.cells (vwL s A n cap cur pr mo).toArray 24) = W := ⟨_, rfl⟩
  have HV0 := hide (show Blk W0 w.heap.size 24 (vwL s A n cap cur pr mo) by rw [← hW0]; exact Blk.new _ _ _)
  rw [hW0] at hb0
  have hsz0 : W0.heap.size = w.heap.size + 1 := by rw [← hW0]; simp
  have HB0 := hide hb0
  have HE0 := hide (hE.below hb0)
  have HBT0 := hide (hBT.below hb0)
  have HA0 := hide (hA.below hb0)
  have HAW := hide hA
  have HEW := hide hE
  have HBTW := hide hBT
  have HN := hide hn
  have HG := hide hG
  clear hE hBT hA hb0 hn hG
  obtain ⟨gb, hgb⟩ : ∃ g, decide (600 < s.size ∨ 700 < n ∨ 60 < pr.size ∨ 60 < mo.size) = g := ⟨_, rfl⟩
  have HGB := hide hgb
  go_enter Tryd.func3, Tryd.ntmps3
  go_wp2_with fail
  rw [show w.alloc (.cells #[.string s, .slice A n cap, .int .i64 cur, .string pr, .string mo] 24) = W0 from hW0]
  obtain ⟨z, hz⟩ : ∃ q, w.heap.size = q := ⟨_, rfl⟩
  rw [hz]
  rw [hz] at HV0 HG hsz0
  clear hW0
  refine (HGR.out _ gb HGB.out.symm).mono ?_; rintro e w1 ⟨rfl, hb1⟩
  have HB1 := hide (HB0.out.trans (hb1.mono HB0.out.size))
  have HV1 := hide (HV0.out.below hb1)
  have HE1 := hide (HE0.out.below hb1)
  have HBT1 := hide (HBT0.out.below hb1)
  have HA1 := hide (HA0.out.below hb1)
  have hz1 : z < w1.heap.size := by have := hb1.size; omega
  clear hb1 HB0 HV0 HE0 HBT0 HA0 hgb
  cases gb
  case true =>
    go_wp2_with fail
    refine (seen_any _ HE1.out HBT1.out (HG.out.up (by omega))).mono ?_; rintro e w2 ⟨rfl, hb2⟩
    go_wp2
    go_ret
    exact ⟨rfl, HB1.out.trans (hb2.mono HB1.out.size)⟩
  case false =>
    have hsm := of_decide_eq_false HGB.out
    have hs1 : s.size ≤ 700 := by omega
    have hn1 : n ≤ 700 := by omega
    have hp1 : pr.size ≤ 100 := by omega
    have hm1 : mo.size ≤ 100 := by omega
    clear hsm HGB HGR
    obtain ⟨v0, v1, v2, v3, v4⟩ := vw_reads HV1.out
    obtain ⟨i0, hi, hz0, hzz1, hz2⟩ := info_parts infoT
    go_wp2_with (first
      | (at_make; refine wpList_make_full _ rfl _ _ _ rfl (z + 1) 28 i0 _ 4 Tryd.underlying22 hi hz0 hzz1 _ _ _ _ n rfl rfl rfl rfl (by rw [hz2]; omega) (by unfold maxLen; omega) (by omega) ?_; intro w2 hown hgr; rw [zT, made_sty] at hown; have HO2 := hide (ownT_of (by simp) hown); have HB2 := hide (HB1.out.grown hgr HB1.out.size (fun k e => by cases e)); have hbg : Below w1.heap.size w1 w2 := (Below.refl _ _).grown hgr (Nat.le_refl _) (fun k e => by cases e); have HV2 := hide (HV1.out.below hbg); have HE2 := hide (HE1.out.below hbg); have HBT2 := hide (HBT1.out.below hbg); have HA2 := hide (HA1.out.below hbg); have hsz2 := hbg.size; clear hown hgr hbg)
      | fail)
    obtain ⟨g, hg⟩ : ∃ g, w1.heap.size = g := ⟨_, rfl⟩
    rw [hg] at HO2 hz1 hsz2 ⊢
    have hgz : ¬ g = z := by omega
    have hgz' : ¬ z = g := by omega
    have hzw : w.heap.size ≤ g := by omega
    have hzw2 : w.heap.size ≤ z := by omega
    clear HB1 HV1 HE1 HBT1 HA1 v0 v1 v2 v3 v4 hg
    go_loopw [8] (fun iv wr => ∃ (i : Nat) (T : List Sty), iv = .int .i64 i ∧ i ≤ n ∧ Hid (T.length = n ∧ ∀ x ∈ T, StyOk x) ∧ Hid (OwnT wr (z + 1) (.slice (some ⟨g, 0, none⟩) n n) T) ∧ Hid (Below g w2 wr)) (fun iv _ => n - (intOf iv).toNat)
    case atStart => exact ⟨0, List.replicate n noSt, rfl, by omega, hide ⟨by simp, fun x hx => by rw [List.eq_of_mem_replicate hx]; exact sty_no⟩, HO2, hide (Below.refl _ _)⟩
    case round =>
      clear HO2
      obtain ⟨i, T, rfl, hin, HT, HO, HBK⟩ := hrel
      have HVr := hide (show Blk wr z 24 (vwL s A n cap cur pr mo) from HV2.out.under HBK.out (by omega))
      obtain ⟨v0, v1, v2, v3, v4⟩ := vw_reads HVr.out
      by_cases hlt : i < n
      · obtain ⟨x, hx⟩ : ∃ x, Ss[i]? = some x := ⟨_, List.getElem?_eq_getElem (by rw [HN.out]; exact hlt)⟩
        obtain ⟨b1, o1, rfl, hb1, c0, c1, c2, c3⟩ := HAW.out.at hx
        have hbw : Below w.heap.size w wr := HB2.out.trans (HBK.out.mono hzw)
        replace c0 := kcG hbw c0
        replace c1 := kcG hbw c1
        replace c2 := kcG hbw c2
        replace c3 := kcG hbw c3
        have hb1w : b1 < wr.heap.size := Nat.lt_of_lt_of_le hb1 hbw.size
        have hbg : ¬ b1 = g := by omega
        have hbg' : ¬ g = b1 := by omega
        obtain ⟨y, hy⟩ : ∃ y, T[i]? = some y := ⟨_, List.getElem?_eq_getElem (by rw [HT.out.1]; exact hlt)⟩
        obtain ⟨b2, o2, e2, hb2, d0, d1, d2, d3⟩ := HO.out.sts.1.at hy
        injection e2 with e2
        injection e2 with e2 e2o
        subst e2 e2o
        rw [Nat.zero_add] at d0 d1 d2 d3
        have df := fun i => HO.out.frozen i
        obtain ⟨fg, bo, un, iv⟩ := x
        dsimp only at c0 c1 c2 c3
        have hi0 : (0 : Int) ≤ (i : Int) := by omega
        have hi1 : (i : Int) < (n : Int) := by omega
        clear hx hy hbw
        go_wp2_with fail
        have ho4 := (HO.out.set HT.out.1 hlt (fg, bo, un, iv)).fg (x := (fg, bo, un, iv)) (by rw [List.length_set]; exact HT.out.1) (by rw [List.getElem?_set_self (by rw [HT.out.1]; exact hlt)]) (bits .and .i64 fg 7)
        rw [List.set_set] at ho4
        have hb5 : Below g w2 (((((wr.setCell ⟨g, i * 4, none⟩ (.int .i64 fg)).setCell ⟨g, i * 4 + 1, none⟩ (.bool bo)).setCell ⟨g, i * 4 + 2, none⟩ (.bool un)).setCell ⟨g, i * 4 + 3, none⟩ (.bool iv)).setCell ⟨g, i * 4, none⟩ (.int .i64 (bits .and .i64 fg 7))) := ((((HBK.out.setCell (p := ⟨g, i * 4, none⟩) (Nat.le_refl _) _).setCell (p := ⟨g, i * 4 + 1, none⟩) (Nat.le_refl _) _).setCell (p := ⟨g, i * 4 + 2, none⟩) (Nat.le_refl _) _).setCell (p := ⟨g, i * 4 + 3, none⟩) (Nat.le_refl _) _).setCell (p := ⟨g, i * 4, none⟩) (Nat.le_refl _) _
        exact ⟨⟨i + 1, _, by go_num, by omega, hide (sts_set HT.out (sty_7 fg bo un iv)), hide ho4, hide hb5⟩, by simp [intOf]; omega⟩
      · obtain rfl : i = n := by omega
        obtain ⟨ra, hra, hra2⟩ : ∃ ra : Nat, a % 20 = (ra : Int) ∧ ra < 20 := ⟨(a % 20).toNat, by omega, by omega⟩
        obtain ⟨rb, hrb, hrb2⟩ : ∃ rb : Nat, b % 60 = (rb : Int) ∧ rb < 60 := ⟨(b % 60).toNat, by omega, by omega⟩
        obtain ⟨R, hR⟩ : ∃ R, 2 + ra = R := ⟨_, rfl⟩
        obtain ⟨C, hC⟩ : ∃ C, 8 + rb = C := ⟨_, rfl⟩
        have hw1 : IntKind.i64.wrap (2 + (ra : Int)) = (R : Int) := by rw [Go.wrap_small _ (by omega) (by omega)]; omega
        have hw2 : IntKind.i64.wrap (8 + (rb : Int)) = (C : Int) := by rw [Go.wrap_small _ (by omega) (by omega)]; omega
        have ha0 := ha.1
        have hb0 := hb.1
        have vf := fun j => HVr.out.frozen j
        have hbw : Below w.heap.size w wr := HB2.out.trans (HBK.out.mono hzw)
        have HBW := hide hbw
        clear hbw
        go_wp2_with fail
        have hbX : Below w.heap.size w (wr.setCell ⟨z, 1, none⟩ (.slice (some ⟨g, 0, none⟩) i i)) := HBW.out.setCell (p := ⟨z, 1, none⟩) hzw2 _
        have HOX := hide (HO.out.far (W := wr.setCell ⟨z, 1, none⟩ (.slice (some ⟨g, 0, none⟩) i i)) (set_b _ _ _ _ hgz))
        obtain ⟨X, hX⟩ : ∃ q, wr.setCell ⟨z, 1, none⟩ (.slice (some ⟨g, 0, none⟩) i i) = q := ⟨_, rfl⟩
        rw [hX] at hbX HOX ⊢
        have HBX := hide hbX
        have HEX := hide (HEW.out.below hbX)
        have HBTX := hide (HBTW.out.below hbX)
        have hgl := HOX.out.sts.2
        have hlX := hbX.size
        obtain ⟨fy, hfy, fv, fr, fc, fl, fr0, fr1, fc0, fc1⟩ := frame_facts (R := R) (C := C) (by omega) (by omega) (by omega) (by omega) s HT.out.2 cur pr mo
        have HFV := hide fv
        have HFA := hide (frame_any R C s (some ⟨g, 0, none⟩) i i cur pr mo T X HEX.out HBTX.out HOX.out.sts.1 (fun b o e => by injection e with e; injection e with e; omega) HT.out.1 (Nat.le_refl _) (by unfold maxLen; omega) (by omega) (by omega) (by omega) (by omega) hs1 hp1 hm1 (HG.out.up (by omega)))
        have HFA := HFA.out
        rw [hfy] at HFA
        have HFA := hide HFA
        obtain ⟨rr, hrr⟩ : ∃ x, fy.row = x := ⟨_, rfl⟩
        obtain ⟨cc, hcc⟩ : ∃ x, fy.col = x := ⟨_, rfl⟩
        have HFF := hide (show fy.rows = (R : Int) ∧ fy.cols = (C : Int) ∧ fy.cs.length = R * C ∧ fy.row = rr ∧ fy.col = cc from ⟨fr, fc, fl, hrr, hcc⟩)
        rw [hrr] at fr0 fr1
        rw [hcc] at fc0 fc1
        clear hbX hX fv fr fc fl hrr hcc hfy HOX HO HT HB2 HV2 HE2 HBT2 HA2 HBK HVr v0 v1 v2 v3 v4 vf HAW
        refine HFA.out.mono ?_; rintro e w5 ⟨v5, rfl, hf5, hb5⟩
        obtain ⟨A5, c5, rfl, hat5⟩ := fr_form hf5 HFF.out
        have HA5 := hide hat5
        have HE5 := hide (HEX.out.below hb5)
        have HBT5 := hide (HBTX.out.below hb5)
        have HB5 := hide (HBX.out.trans (hb5.mono HBX.out.size))
        have hl5 := hb5.size
        clear hf5 hat5 hb5 HEX HBTX HBX HFA
        obtain ⟨N, hN⟩ : ∃ q, R * C = q := ⟨_, rfl⟩
        rw [hN] at HA5 ⊢
        clear hN
        go_wp2_with fail
        have hb6 : Below w5.heap.size w5 (w5.alloc (.cells #[.int .i64 R, .int .i64 C, .slice A5 N c5, .int .i64 rr, .int .i64 cc] 31)) := (Below.refl _ _).alloc (Nat.le_refl _) _
        have HK6 := hide (show Blk (w5.alloc (.cells #[.int .i64 R, .int .i64 C, .slice A5 N c5, .int .i64 rr, .int .i64 cc] 31)) w5.heap.size 31 (frCells R C (.slice A5 N c5) rr cc) from Blk.new _ _ _)
        obtain ⟨b6, hb6e⟩ : ∃ b, w5.heap.size = b := ⟨_, rfl⟩
        obtain ⟨w6, hw6⟩ : ∃ q, w5.alloc (.cells #[.int .i64 R, .int .i64 C, .slice A5 N c5, .int .i64 rr, .int .i64 cc] 31) = q := ⟨_, rfl⟩
        rw [hw6] at hb6 HK6 ⊢
        rw [hb6e] at HK6 ⊢
        have HA6 := hide (HA5.out.below hb6)
        have HE6 := hide (HE5.out.below hb6)
        have HBT6 := hide (HBT5.out.below hb6)
        have HB6 := hide (HB5.out.trans (hb6.mono HB5.out.size))
        have hl6 := hb6.size
        clear hb6 hw6 HA5 HE5 HBT5 HB5
        refine (valid_is fy true HFV.out _ w6 HA6.out HE6.out.1).mono ?_; rintro e w7 ⟨rfl, hb7⟩
        have HK7 := hide (HK6.out.below hb7)
        have HE7 := hide (HE6.out.below hb7)
        have HBT7 := hide (HBT6.out.below hb7)
        have HB7 := hide (HB6.out.trans (hb7.mono HB6.out.size))
        have hl7 := hb7.size
        clear hb7 HK6 HE6 HBT6 HB6 HA6
        obtain ⟨f0, f1, f2, f3, f4, ff⟩ := fr_reads HK7.out
        have hlw : z ≤ w7.heap.size := by omega
        go_wp2_with fail
        refine (seen_any _ HE7.out HBT7.out (HG.out.up hlw)).mono ?_; rintro e w8 ⟨rfl, hb8⟩
        go_wp2
        go_ret
        exact ⟨rfl, HB7.out.trans (hb8.mono HB7.out.size)⟩
end Go.Proofs.YtmpajkfbiocmiaaDoor
namespace Go.Proofs.YtmpajkfbiocmiaaDoor

/-- A text of the letters a to h. -/
def LettY (s : ByteArray) : Prop := ∀ j (h : j < s.size), 97 ≤ s[j].toNat ∧ s[j].toNat ≤ 104
theorem dec_lett {s : ByteArray} (h : LettY s) {j : Nat} (hj : j < s.size) : Utf8.decode s j = (s[j].toNat, 1) := Go.decode_ascii s j hj (by have := h j hj; omega)
theorem starts_lett {s : ByteArray} (h : LettY s) : ∀ f pos, s.size ≤ pos + f → startsFrom s f pos = List.range' pos (s.size - pos)
  | 0, pos, hf => by rw [show s.size - pos = 0 by omega]; rfl
  | f + 1, pos, hf => by
    unfold startsFrom
    split
    · rename_i hp
      rw [dec_lett h hp, starts_lett h f (pos + 1) (by omega), show s.size - pos = (s.size - (pos + 1)) + 1 by omega, List.range'_succ]
    · rw [show s.size - pos = 0 by omega]; rfl
theorem nR_lett {s : ByteArray} (h : LettY s) : nR s = s.size := by
  unfold nR starts
  rw [starts_lett h _ _ (by omega)]; simp
theorem plc_lett {s : ByteArray} (h : LettY s) {k : Nat} (hk : k ≤ s.size) : plc s k = k := by
  by_cases hl : k < s.size
  · unfold plc starts
    rw [starts_lett h _ _ (by omega), List.getElem?_range' (by omega)]
    simp
  · rw [plc_end (by rw [nR_lett h]; omega)]; omega
theorem fix_lett {s : ByteArray} (h : LettY s) {k : Nat} (hk : k ≤ s.size) : plc s (fixK s (k : Int)) = k := by
  have h1 := fixK_plc (s := s) (k := k) (by rw [nR_lett h]; exact hk)
  rw [plc_lett h hk] at h1
  rw [h1, plc_lett h hk]
theorem cells_lett {r : Int} (h : r = 62 ∨ r = 32 ∨ (97 ≤ r ∧ r ≤ 104)) : cells r = 1 ∧ shown r = r ∧ r ≠ 9 ∧ r ≠ 10 := by
  have hc : cells r = 1 := by
    rcases h with rfl | rfl | ⟨h1, h2⟩
    · decide +kernel
    · decide +kernel
    · have : r = 97 ∨ r = 98 ∨ r = 99 ∨ r = 100 ∨ r = 101 ∨ r = 102 ∨ r = 103 ∨ r = 104 := by omega
      rcases this with rfl | rfl | rfl | rfl | rfl | rfl | rfl | rfl <;> decide +kernel
  exact ⟨hc, by unfold shown; rw [hc, if_neg (by decide)], by omega, by omega⟩
theorem fits_lett {C : Nat} (L : List Cl) {r : Int} (h : r = 62 ∨ r = 32 ∨ (97 ≤ r ∧ r ≤ 104)) : fitsY C L r = L := by
  unfold fitsY
  rw [if_neg (by rw [(cells_lett h).1]; rintro ⟨-, -, e, -⟩; exact absurd e (by decide))]
theorem rune_lett {C : Nat} (L : List Cl) {r : Int} (s : Sty) (h : r = 62 ∨ r = 32 ∨ (97 ≤ r ∧ r ≤ 104)) : runeY C L r s = L ++ [mkC r 1 s] := by
  have h2 := cells_lett h
  unfold runeY
  rw [if_neg h2.2.2.1, fits_lett L h, h2.2.1, h2.1]
  unfold putY
  rw [if_neg (by decide)]
  rfl
/-- The cells of a text of letters, so many. -/
def lettC (s : ByteArray) (i : Nat) : List Cl := (List.range i).map fun j => mkC ((s[j]?.map fun b => (b.toNat : Int)).getD 0) 1 noSt
theorem lettC_len (s : ByteArray) (i : Nat) : (lettC s i).length = i := by simp [lettC]
theorem lettC_succ {s : ByteArray} {i : Nat} (h : i < s.size) : lettC s (i + 1) = lettC s i ++ [mkC (s[i].toNat : Int) 1 noSt] := by
  unfold lettC
  rw [List.range_succ, List.map_append]
  simp [h]
theorem sty_nil (i : Nat) : styAt [] i = noSt := by simp [styAt]
theorem lay_lett {C : Nat} {s mo : ByteArray} (h : LettY s) {k : Nat} (B : List Cl) : ∀ f i cur, s.size ≤ i + f → i ≤ s.size → (k < i → cur = B.length + k) →
    (layY C s mo [] k f i (B ++ lettC s i) cur).1 = B ++ lettC s s.size ∧ (k < s.size → (layY C s mo [] k f i (B ++ lettC s i) cur).2 = B.length + k)
  | 0, i, cur, hf, hi, hc => by
    obtain rfl : i = s.size := by omega
    exact ⟨rfl, fun hk => hc hk⟩
  | f + 1, i, cur, hf, hi, hc => by
    unfold layY
    split
    · rename_i hp
      have hb := h i hp
      have hr : ((s[i].toNat : Nat) : Int) = 62 ∨ ((s[i].toNat : Nat) : Int) = 32 ∨ (97 ≤ ((s[i].toNat : Nat) : Int) ∧ ((s[i].toNat : Nat) : Int) ≤ 104) := by omega
      rw [dec_lett h hp]
      dsimp only
      rw [if_neg (show ¬ ((s[i].toNat : Nat) : Int) = 10 by omega), fits_lett _ hr, rune_lett _ _ hr, sty_nil, List.append_assoc, ← lettC_succ hp]
      refine lay_lett h B f (i + 1) _ (by omega) (by omega) (fun hk => ?_)
      by_cases hik : i = k
      · rw [if_pos hik, List.length_append, lettC_len, hik]
      · rw [if_neg hik]; exact hc (by omega)
    · obtain rfl : i = s.size := by omega
      exact ⟨rfl, fun hk => hc hk⟩
theorem prom_gt (C : Nat) : promY C ⟨#[62, 32]⟩ 2 0 [] = [mkC 62 1 noSt, mkC 32 1 noSt] := by
  have d0 : Utf8.decode ⟨#[62, 32]⟩ 0 = (62, 1) := by decide +kernel
  have d1 : Utf8.decode ⟨#[62, 32]⟩ 1 = (32, 1) := by decide +kernel
  unfold promY
  rw [if_pos (by decide), d0]
  dsimp only
  rw [if_neg (by decide), show (((62 : Nat) : Int)) = 62 from rfl, rune_lett _ _ (.inl rfl)]
  unfold promY
  rw [if_pos (by decide), d1]
  dsimp only
  rw [if_neg (by decide), show (((32 : Nat) : Int)) = 32 from rfl, rune_lett _ _ (.inr (.inl rfl))]
  rfl
theorem view_lett {C : Nat} {s mo : ByteArray} (h : LettY s) {k : Nat} (hk : k ≤ s.size) : viewY C s [] (k : Int) ⟨#[62, 32]⟩ mo = ([mkC 62 1 noSt, mkC 32 1 noSt] ++ lettC s s.size, 2 + k) := by
  unfold viewY
  dsimp only
  rw [show (⟨#[62, 32]⟩ : ByteArray).size = 2 from rfl, prom_gt, fix_lett h hk]
  have h1 := lay_lett (C := C) (mo := mo) h (k := k) [mkC 62 1 noSt, mkC 32 1 noSt] s.size 0 0 (by omega) (by omega) (by omega)
  rw [show ([mkC 62 1 noSt, mkC 32 1 noSt] ++ lettC s 0 : List Cl) = [mkC 62 1 noSt, mkC 32 1 noSt] by simp [lettC]] at h1
  rw [h1.1]
  by_cases he : k = s.size
  · rw [if_pos he, List.length_append, lettC_len, he]
    rfl
  · rw [if_neg he, h1.2 (by omega)]
    rfl
/-- The frame of a text of letters. -/
theorem frame_lett {C : Nat} {s mo : ByteArray} (h : LettY s) {k : Nat} (hk : k ≤ s.size) (hs : s.size ≤ 150) (hC : 8 ≤ C) :
    ∃ f, frameY 30 C s [] (k : Int) ⟨#[62, 32]⟩ mo = f ∧ f.rows = 30 ∧ f.cols = C ∧ f.cs.length = 30 * C ∧ f.row = ((2 + k) / C : Nat) ∧ f.col = ((2 + k) % C : Nat) ∧ ∀ j (hj : j < (⟨#[62, 32]⟩ ++ s : ByteArray).size), f.cs[j]? = some (mkC ((⟨#[62, 32]⟩ ++ s : ByteArray)[j].toNat : Int) 1 noSt) := by
  have hq : (2 + k) / C ≤ 19 := by
    refine Nat.le_trans (Nat.div_le_div_left hC (by omega)) ?_
    omega
  have ht : (2 + k) / C + 1 - 30 = 0 := by omega
  refine ⟨_, rfl, ?_⟩
  unfold frameY
  rw [view_lett h hk]
  dsimp only
  rw [ht]
  refine ⟨rfl, rfl, cpY_len _ _ _ _, by simp, rfl, fun j hj => ?_⟩
  have hj2 : j < 2 + s.size := by rw [ByteArray.size_append] at hj; exact hj
  have hlt : j < 30 * C := by omega
  rw [cpY_at hlt, if_pos hlt, Nat.zero_mul, Nat.zero_add]
  by_cases h0 : j = 0
  · subst h0; rfl
  by_cases h1 : j = 1
  · subst h1; rfl
  obtain ⟨i, rfl⟩ : ∃ i, j = 2 + i := ⟨j - 2, by omega⟩
  have hi : i < s.size := by omega
  rw [List.getElem?_append_right (by simp), show 2 + i - ([mkC 62 1 noSt, mkC 32 1 noSt] : List Cl).length = i by simp]
  have e1 : (lettC s s.size)[i]? = some (mkC (s[i].toNat : Int) 1 noSt) := by simp [lettC, hi]
  have e2 : (⟨#[62, 32]⟩ ++ s : ByteArray)[2 + i] = s[i] := by
    rw [ByteArray.getElem_append_right (by show 2 ≤ 2 + i; omega)]
    congr 1
    show 2 + i - 2 = i
    omega
  rw [e1, e2]
  rfl
end Go.Proofs.YtmpajkfbiocmiaaDoor
namespace Go.Proofs.YtmpajkfbiocmiaaDoor
open Go.RowKit

def lit8 : ByteArray := ⟨#[97, 98, 99, 100, 101, 102, 103, 104]⟩
theorem lit8_at : ∀ m, (h : m < 8) → 97 ≤ (lit8[m]'h).toNat ∧ (lit8[m]'h).toNat ≤ 104 := by decide
theorem lett_nil : LettY ⟨#[]⟩ := fun j h => by have : j < 0 := h; omega
theorem lett_snoc {t : ByteArray} {m : Nat} (h : LettY t) (hm : m < 8) : LettY (t ++ lit8.extract m (m + 1)) ∧ (t ++ lit8.extract m (m + 1)).size = t.size + 1 := by
  have hz : (lit8.extract m (m + 1)).size = 1 := by rw [ByteArray.size_extract]; show min (m + 1) 8 - m = 1; omega
  have hs : (t ++ lit8.extract m (m + 1)).size = t.size + 1 := by rw [ByteArray.size_append, hz]
  refine ⟨fun j hj => ?_, hs⟩
  by_cases hl : j < t.size
  · rw [ByteArray.getElem_append_left hl]; exact h j hl
  · have e : (t ++ lit8.extract m (m + 1))[j] = lit8[m]'hm := by
      rw [ByteArray.getElem_append_right (by omega), ByteArray.getElem_extract]
      congr 1
      omega
    rw [e]; exact lit8_at m hm
def byL (x : Int) : List Value := [.int .u8 x]
set_option maxHeartbeats 4000000 in
set_option maxRecDepth 100000 in
theorem LayoutPlain_any (A : Option Addr) (cap : Nat) (l : List Int) (a b : Int) (w : World) (hE : EnvL w) (hBT : BTab w) (hG : LowG w.heap.size) (hA : RowOf w 1 byL A l) (hr : ∀ x ∈ l, 0 ≤ x ∧ x ≤ 255) (hc : l.length ≤ cap) (hc2 : cap ≤ maxLen) (ha : 0 ≤ a ∧ a ≤ 255) (hb : 0 ≤ b ∧ b ≤ 255) :
    Calls Tryd.prog 4 #[.slice A l.length cap, .int .u8 a, .int .u8 b] w fun e w' => e = .returned (.bool true) ∧ Below w.heap.size w w' := by
  unfold maxLen at *
  obtain ⟨n, hn⟩ : ∃ n, l.length = n := ⟨_, rfl⟩
  rw [hn] at hc ⊢
  have HE := hide hE
  have HBT := hide hBT
  have HG := hide hG
  have HA := hide hA
  have HR := hide hr
  have HN := hide hn
  clear hE hBT hG hA hr hn
  by_cases hlong : 150 < n
  · have hl2 : (150 : Int) < (n : Int) := by omega
    go_enter Tryd.func4, Tryd.ntmps4
    go_wp2_with fail
    refine (seen_any _ HE.out HBT.out HG.out).mono ?_; rintro e w2 ⟨rfl, hb2⟩
    go_wp2
    go_ret
    exact ⟨rfl, hb2⟩
  have hl2 : ¬ (150 : Int) < (n : Int) := by omega
  go_enter Tryd.func4, Tryd.ntmps4
  go_wp2_with fail
  go_loopw [7, 8] (fun sv iv wr => ∃ (i : Nat) (t : ByteArray), sv = .string t ∧ iv = .int .i64 i ∧ i ≤ n ∧ t.size = i ∧ Hid (LettY t) ∧ Hid (Below w.heap.size w wr)) (fun _ iv _ => n - (intOf iv).toNat)
  case atStart => exact ⟨0, ⟨#[]⟩, rfl, rfl, by omega, rfl, hide lett_nil, hide (Below.refl _ _)⟩
  case round =>
    obtain ⟨i, t, rfl, rfl, hin, hti, HL, HB⟩ := hrel
    by_cases hlt : i < n
    · obtain ⟨x, hx⟩ : ∃ x, l[i]? = some x := ⟨_, List.getElem?_eq_getElem (by rw [HN.out]; exact hlt)⟩
      obtain ⟨b1, o1, rfl, hb1, hcx⟩ := HA.out i x hx
      have c0 := kcG HB.out (hcx 0 _ rfl)
      rw [Nat.mul_one, Nat.add_zero] at c0
      have hx2 := HR.out x (List.mem_of_getElem? hx)
      obtain ⟨m, hm, hm8⟩ : ∃ m : Nat, x % 8 = (m : Int) ∧ m < 8 := ⟨(x % 8).toNat, by omega, by omega⟩
      have hx0 := hx2.1
      have HS := hide (lett_snoc HL.out hm8)
      obtain ⟨m1, hm1⟩ : ∃ q, m + 1 = q := ⟨_, rfl⟩
      rw [hm1] at HS
      have hw1 : IntKind.u8.wrap ((m : Int) + 1) = (m1 : Int) := by simp [IntKind.wrap_u8]; omega
      have hm0 : (0 : Int) ≤ (m : Int) := by omega
      have hmm1 : (m : Int) ≤ (m1 : Int) := by omega
      have hm8' : (m1 : Int) ≤ 8 := by omega
      have hmn : m ≤ m1 := by omega
      have hm8n : m1 ≤ 8 := by omega
      unfold lit8 at HS
      have hi0 : (0 : Int) ≤ (i : Int) := by omega
      have hi1 : (i : Int) < (n : Int) := by omega
      clear hx hcx hb1 hx2 hm1 hm8
      go_wp2_with fail
      go_quiet (fail)
      rename_i nq
      have HBq := hide (below_drewN HB.out nq)
      go_wp2_with fail
      go_roundw
      case rel => exact ⟨i + 1, _, rfl, by go_num, by omega, by rw [HS.out.2, hti], hide HS.out.1, HBq⟩
      case measure => simp [intOf]; omega
    · obtain rfl : i = n := by omega
      obtain ⟨rb, hrb, hrb2⟩ : ∃ rb : Nat, b % 60 = (rb : Int) ∧ rb < 60 := ⟨(b % 60).toNat, by omega, by omega⟩
      obtain ⟨C, hC⟩ : ∃ C, 8 + rb = C := ⟨_, rfl⟩
      have hw2 : IntKind.i64.wrap (8 + (rb : Int)) = (C : Int) := by rw [Go.wrap_small _ (by omega) (by omega)]; omega
      have ha0 := ha.1
      have hb0 := hb.1
      obtain ⟨i1, hi1⟩ : ∃ q, i + 1 = q := ⟨_, rfl⟩
      have hw3 : IntKind.i64.wrap ((i : Int) + 1) = (i1 : Int) := by rw [Go.wrap_small _ (by omega) (by omega)]; omega
      have hi10 : ¬ (i1 : Int) = 0 := by omega
      obtain ⟨k, hk, hk2⟩ : ∃ k : Nat, a % (i1 : Int) = (k : Int) ∧ k ≤ i := ⟨(a % (i1 : Int)).toNat, by have := Int.emod_nonneg a hi10; omega, by have := Int.emod_nonneg a hi10; have := Int.emod_lt_of_pos a (show (0 : Int) < i1 by omega); omega⟩
      obtain ⟨fy, hfy, fr, fc, fl, fro, fco, fcs⟩ := frame_lett (C := C) (mo := ⟨#[]⟩) HL.out (k := k) (by omega) (by omega) (by omega)
      have HFA := frame_any 30 C t none 0 0 (k : Int) ⟨#[62, 32]⟩ ⟨#[]⟩ [] wr (HE.out.below HB.out) (HBT.out.below HB.out) (sts_nil wr) (fun b o e => by cases e) rfl (Nat.le_refl _) (by unfold maxLen; omega) (by omega) (by omega) (by omega) (by omega) (by omega) (by decide) (by decide) (HG.out.up HB.out.size)
      rw [hfy] at HFA
      obtain ⟨q, hq⟩ : ∃ q, (2 + k) / C = q := ⟨_, rfl⟩
      obtain ⟨r, hr⟩ : ∃ r, (2 + k) % C = r := ⟨_, rfl⟩
      rw [hq] at fro
      rw [hr] at fco
      have hq2 : (((2 + k : Nat) : Int)) / (C : Int) = (q : Int) := by rw [div_int, hq]
      have hr2 : (((2 + k : Nat) : Int)) % (C : Int) = (r : Int) := by rw [mod_int, hr]
      have hqb : q ≤ 2 + k := by rw [← hq]; exact Nat.div_le_self _ _
      obtain ⟨k2, hk2e⟩ : ∃ z, 2 + k = z := ⟨_, rfl⟩
      rw [hk2e] at hq2 hr2
      have hr3 : Int.tmod (k2 : Int) (C : Int) = (r : Int) := by rw [Int.tmod_eq_emod_of_nonneg (by omega)]; exact hr2
      have hw4 : IntKind.i64.wrap (2 + (k : Int)) = (k2 : Int) := by rw [Go.wrap_small _ (by omega) (by omega)]; omega
      have hw5 : IntKind.i64.wrap (q : Int) = (q : Int) := Go.wrap_small _ (by omega) (by omega)
      have hC0 : ¬ (C : Int) = 0 := by omega
      have hC0n : ¬ C = 0 := by omega
      obtain ⟨N, hN⟩ : ∃ N, 30 * C = N := ⟨_, rfl⟩
      have hw6 : IntKind.i64.wrap (30 * (C : Int)) = (N : Int) := by rw [Go.wrap_small _ (by omega) (by omega)]; omega
      rw [hN] at fl
      have HFF := hide (show fy.rows = (30 : Int) ∧ fy.cols = (C : Int) ∧ fy.cs.length = N ∧ fy.row = (q : Int) ∧ fy.col = (r : Int) from ⟨fr, fc, fl, fro, fco⟩)
      obtain ⟨al, hal⟩ : ∃ x, (⟨#[62, 32]⟩ ++ t : ByteArray) = x := ⟨_, rfl⟩
      have hals : al.size = 2 + t.size := by rw [← hal, ByteArray.size_append]; rfl
      have HCS := hide (show ∀ j (hj : j < al.size), fy.cs[j]? = some (mkC (al[j].toNat : Int) 1 noSt) by subst hal; exact fcs)
      have HAL := hide hal
      have HFA := hide HFA
      have hNa : al.size ≤ N := by omega
      have hals2 : al.size ≤ 1000 := by omega
      have hNb : N ≤ 20000 := by omega
      clear fr fc fl fro fco fcs hfy hq hr hal hrb2 hN hals
      go_wp2_with fail
      refine HFA.out.mono ?_; rintro e w5 ⟨v5, rfl, hf5, hb5⟩
      obtain ⟨A5, c5, rfl, hat5⟩ := fr_form hf5 HFF.out
      have HA5 := hide hat5
      have HB5 := hide (HB.out.trans (hb5.mono HB.out.size))
      clear hf5 hat5 hb5 HFA HB
      go_wp2_with fail
      have hb6 : Below w5.heap.size w5 (w5.alloc (.cells #[.int .i64 30, .int .i64 C, .slice A5 N c5, .int .i64 q, .int .i64 r] 31)) := (Below.refl _ _).alloc (Nat.le_refl _) _
      have HK6 := hide (show Blk (w5.alloc (.cells #[.int .i64 30, .int .i64 C, .slice A5 N c5, .int .i64 q, .int .i64 r] 31)) w5.heap.size 31 (frCells 30 C (.slice A5 N c5) q r) from Blk.new _ _ _)
      obtain ⟨b6, hb6e⟩ : ∃ b, w5.heap.size = b := ⟨_, rfl⟩
      obtain ⟨w6, hw6e⟩ : ∃ W, w5.alloc (.cells #[.int .i64 30, .int .i64 C, .slice A5 N c5, .int .i64 q, .int .i64 r] 31) = W := ⟨_, rfl⟩
      rw [hw6e] at hb6 HK6 ⊢
      rw [hb6e] at HK6 ⊢
      have HA6 := hide (HA5.out.below hb6)
      have HB6 := hide (HB5.out.trans (hb6.mono HB5.out.size))
      clear hb6 hw6e HA5 HB5 hb6e
      obtain ⟨e0, e1, e2, e3, e4, -⟩ := fr_reads HK6.out
      obtain ⟨A7, c7, ef7, hc7, hcm7, hcl7⟩ := HA6.out
      unfold frV at ef7
      simp only [Value.agg.injEq, Array.mk.injEq, List.cons.injEq, Value.slice.injEq, and_true, true_and] at ef7
      obtain ⟨-, -, ⟨eA, -, -⟩, -⟩ := ef7
      subst eA
      have HCL := hide hcl7
      clear hcl7 hc7 hcm7
      refine wp_region_held_drew (S := (fun W => W.cell? ⟨b6, 2, none⟩ = some (.slice A5 N c5) ∧ W.cell? ⟨b6, 3, none⟩ = some (.int .i64 q) ∧ W.cell? ⟨b6, 4, none⟩ = some (.int .i64 r))) (by kernel_rfl) ?_ (fun hHeld => ?_)
      · exact ⟨e2, e3, e4⟩
      refine wpAnyH_at (i := 0) (v := ?v0) (d := 57) rfl rfl (by kernel_rfl) (by kernel_rfl) (by kernel_rfl) (fun _ _ _ h => h) (Or.inl ⟨by rfl, fun w' hSw => ?hy0⟩) (by assumption) ?rest0
      case hy0 =>
        (try dsimp only at hSw)
        go_simp
        (try with_reducible rfl)
      (try simp only [Act.put, List.setIfInBounds_toArray, List.set_cons_zero, List.set_cons_succ])
      refine wpAnyH_at (i := 1) (v := ?v1) (d := 58) rfl rfl (by kernel_rfl) (by kernel_rfl) (by kernel_rfl) (fun _ _ _ h => h) (Or.inl ⟨by rfl, fun w' hSw => ?hy1⟩) (by assumption) ?rest1
      case hy1 =>
        (try dsimp only at hSw)
        go_simp
        (try with_reducible rfl)
      (try simp only [Act.put, List.setIfInBounds_toArray, List.set_cons_zero, List.set_cons_succ])
      refine wpAnyH_at (i := 2) (v := ?v2) (d := 59) rfl rfl (by kernel_rfl) (by kernel_rfl) (by kernel_rfl) (fun _ _ _ h => h) (Or.inl ⟨by rfl, fun w' hSw => ?hy2⟩) (by assumption) ?rest2
      case hy2 =>
        (try dsimp only at hSw)
        go_simp
        (try with_reducible rfl)
      (try simp only [Act.put, List.setIfInBounds_toArray, List.set_cons_zero, List.set_cons_succ])
      refine wpAnyH_at (i := 3) (v := ?v3) (d := 60) rfl rfl (by kernel_rfl) (by kernel_rfl) (by kernel_rfl) (fun _ _ _ h => h) (Or.inl ⟨by rfl, fun w' hSw => ?hy3⟩) (by assumption) ?rest3
      case hy3 =>
        (try dsimp only at hSw)
        go_simp
        (try with_reducible rfl)
      (try simp only [Act.put, List.setIfInBounds_toArray, List.set_cons_zero, List.set_cons_succ])
      refine wpAnyH_at (i := 4) (v := ?v4) (d := 61) rfl rfl (by kernel_rfl) (by kernel_rfl) (by kernel_rfl) (fun _ _ _ h => h) (Or.inl ⟨by rfl, fun w' hSw => ?hy4⟩) (by assumption) ?rest4
      case hy4 =>
        (try dsimp only at hSw)
        go_simp
        (try with_reducible rfl)
      (try simp only [Act.put, List.setIfInBounds_toArray, List.set_cons_zero, List.set_cons_succ])
      refine wpAnyH_at (i := 5) (v := ?v5) (d := 62) rfl rfl (by kernel_rfl) (by kernel_rfl) (by kernel_rfl) (fun _ _ _ h => h) (Or.inl ⟨by rfl, fun w' hSw => ?hy5⟩) (by assumption) ?rest5
      case hy5 =>
        (try dsimp only at hSw)
        go_simp
        (try with_reducible rfl)
      (try simp only [Act.put, List.setIfInBounds_toArray, List.set_cons_zero, List.set_cons_succ])
      refine wpAnyH_at (i := 6) (v := ?v6) (d := 63) rfl rfl (by kernel_rfl) (by kernel_rfl) (by kernel_rfl) (fun _ _ _ h => h) (Or.inl ⟨by rfl, fun w' hSw => ?hy6⟩) (by assumption) ?rest6
      case hy6 =>
        (try dsimp only at hSw)
        go_simp
        (try with_reducible rfl)
      (try simp only [Act.put, List.setIfInBounds_toArray, List.set_cons_zero, List.set_cons_succ])
      refine wpAnyH_at (i := 7) (v := ?v7) (d := 64) rfl rfl (by kernel_rfl) (by kernel_rfl) (by kernel_rfl) (fun _ _ _ h => h) (Or.inl ⟨by rfl, fun w' hSw => ?hy7⟩) (by assumption) ?rest7
      case hy7 =>
        (try dsimp only at hSw)
        go_simp
        (try with_reducible rfl)
      (try simp only [Act.put, List.setIfInBounds_toArray, List.set_cons_zero, List.set_cons_succ])
      refine wpAnyH_at (i := 8) (v := ?v8) (d := 65) rfl rfl (by kernel_rfl) (by kernel_rfl) (by kernel_rfl) (fun _ _ _ h => h) (Or.inl ⟨by rfl, fun w' hSw => ?hy8⟩) (by assumption) ?rest8
      case hy8 =>
        (try dsimp only at hSw)
        go_simp
        (try with_reducible rfl)
      (try simp only [Act.put, List.setIfInBounds_toArray, List.set_cons_zero, List.set_cons_succ])
      refine wpAnyH_at (i := 9) (v := ?v9) (d := 66) rfl rfl (by kernel_rfl) (by kernel_rfl) (by kernel_rfl) (fun _ _ _ h => h) (Or.inl ⟨by rfl, fun w' hSw => ?hy9⟩) (by assumption) ?rest9
      case hy9 =>
        (try dsimp only at hSw)
        go_simp
        (try with_reducible rfl)
      (try simp only [Act.put, List.setIfInBounds_toArray, List.set_cons_zero, List.set_cons_succ])
      refine wpAnyH_at (i := 10) (v := ?v10) (d := 67) rfl rfl (by kernel_rfl) (by kernel_rfl) (by kernel_rfl) (fun _ _ _ h => h) (Or.inl ⟨by rfl, fun w' hSw => ?hy10⟩) (by assumption) ?rest10
      case hy10 =>
        (try dsimp only at hSw)
        go_simp
        (try with_reducible rfl)
      (try simp only [Act.put, List.setIfInBounds_toArray, List.set_cons_zero, List.set_cons_succ])
      refine wpAnyH_at (i := 11) (v := ?v11) (d := 68) rfl rfl (by kernel_rfl) (by kernel_rfl) (by kernel_rfl) (fun _ _ _ h => h) (Or.inl ⟨by rfl, fun w' hSw => ?hy11⟩) (by assumption) ?rest11
      case hy11 =>
        (try dsimp only at hSw)
        go_simp
        (try with_reducible rfl)
      (try simp only [Act.put, List.setIfInBounds_toArray, List.set_cons_zero, List.set_cons_succ])
      refine wpAnyH_at (i := 12) (v := ?v12) (d := 69) rfl rfl (by kernel_rfl) (by kernel_rfl) (by kernel_rfl) (fun _ _ _ h => h) (Or.inl ⟨by rfl, fun w' hSw => ?hy12⟩) (by assumption) ?rest12
      case hy12 =>
        (try dsimp only at hSw)
        go_simp
        (try with_reducible rfl)
      (try simp only [Act.put, List.setIfInBounds_toArray, List.set_cons_zero, List.set_cons_succ])
      refine wpAnyH_at (i := 13) (v := ?v13) (d := 70) rfl rfl (by kernel_rfl) (by kernel_rfl) (by kernel_rfl) (fun _ _ _ h => h) (Or.inl ⟨by rfl, fun w' hSw => ?hy13⟩) (by assumption) ?rest13
      case hy13 =>
        (try dsimp only at hSw)
        go_simp
        (try with_reducible rfl)
      (try simp only [Act.put, List.setIfInBounds_toArray, List.set_cons_zero, List.set_cons_succ])
      refine wpAnyH_at (i := 14) (v := ?v14) (d := 71) rfl rfl (by kernel_rfl) (by kernel_rfl) (by kernel_rfl) (fun _ _ _ h => h) (Or.inl ⟨by rfl, fun w' hSw => ?hy14⟩) (by assumption) ?rest14
      case hy14 =>
        (try dsimp only at hSw)
        go_simp
        (try with_reducible rfl)
      (try simp only [Act.put, List.setIfInBounds_toArray, List.set_cons_zero, List.set_cons_succ])
      refine wpAnyH_at (i := 15) (v := ?v15) (d := 72) rfl rfl (by kernel_rfl) (by kernel_rfl) (by kernel_rfl) (fun _ _ _ h => h) (Or.inl ⟨by rfl, fun w' hSw => ?hy15⟩) (by assumption) ?rest15
      case hy15 =>
        (try dsimp only at hSw)
        go_simp
        (try with_reducible rfl)
      (try simp only [Act.put, List.setIfInBounds_toArray, List.set_cons_zero, List.set_cons_succ])
      refine wpAnyH_at (i := 16) (v := ?v16) (d := 73) rfl rfl (by kernel_rfl) (by kernel_rfl) (by kernel_rfl) (fun _ _ _ h => h) (Or.inl ⟨by rfl, fun w' hSw => ?hy16⟩) (by assumption) ?rest16
      case hy16 =>
        (try dsimp only at hSw)
        go_simp
        (try with_reducible rfl)
      (try simp only [Act.put, List.setIfInBounds_toArray, List.set_cons_zero, List.set_cons_succ])
      refine wpAnyH_at (i := 17) (v := ?v17) (d := 74) rfl rfl (by kernel_rfl) (by kernel_rfl) (by kernel_rfl) (fun _ _ _ h => h) (Or.inl ⟨by rfl, fun w' hSw => ?hy17⟩) (by assumption) ?rest17
      case hy17 =>
        (try dsimp only at hSw)
        go_simp
        (try with_reducible rfl)
      (try simp only [Act.put, List.setIfInBounds_toArray, List.set_cons_zero, List.set_cons_succ])
      refine wpAnyH_at (i := 18) (v := ?v18) (d := 75) rfl rfl (by kernel_rfl) (by kernel_rfl) (by kernel_rfl) (fun _ _ _ h => h) (Or.inl ⟨by rfl, fun w' hSw => ?hy18⟩) (by assumption) ?rest18
      case hy18 =>
        (try dsimp only at hSw)
        go_simp
        (try with_reducible rfl)
      (try simp only [Act.put, List.setIfInBounds_toArray, List.set_cons_zero, List.set_cons_succ])
      refine wpAnyH_at (i := 19) (v := ?v19) (d := 76) rfl rfl (by kernel_rfl) (by kernel_rfl) (by kernel_rfl) (fun _ _ _ h => h) (Or.inl ⟨by rfl, fun w' hSw => ?hy19⟩) (by assumption) ?rest19
      case hy19 =>
        (try dsimp only at hSw)
        go_simp
        (try with_reducible rfl)
      (try simp only [Act.put, List.setIfInBounds_toArray, List.set_cons_zero, List.set_cons_succ])
      refine wpAnyH_at (i := 20) (v := ?v20) (d := 77) rfl rfl (by kernel_rfl) (by kernel_rfl) (by kernel_rfl) (fun _ _ _ h => h) (Or.inl ⟨by rfl, fun w' hSw => ?hy20⟩) (by assumption) ?rest20
      case hy20 =>
        (try dsimp only at hSw)
        go_simp
        (try with_reducible rfl)
      (try simp only [Act.put, List.setIfInBounds_toArray, List.set_cons_zero, List.set_cons_succ])
      refine wpAnyH_at (i := 21) (v := ?v21) (d := 78) rfl rfl (by kernel_rfl) (by kernel_rfl) (by kernel_rfl) (fun _ _ _ h => h) (Or.inl ⟨by rfl, fun w' hSw => ?hy21⟩) (by assumption) ?rest21
      case hy21 =>
        (try dsimp only at hSw)
        go_simp
        (try with_reducible rfl)
      (try simp only [Act.put, List.setIfInBounds_toArray, List.set_cons_zero, List.set_cons_succ])
      refine wpAnyH_at (i := 22) (v := ?v22) (d := 79) rfl rfl (by kernel_rfl) (by kernel_rfl) (by kernel_rfl) (fun _ _ _ h => h) (Or.inl ⟨by rfl, fun w' hSw => ?hy22⟩) (by assumption) ?rest22
      case hy22 =>
        (try dsimp only at hSw)
        go_simp
        (try with_reducible rfl)
      (try simp only [Act.put, List.setIfInBounds_toArray, List.set_cons_zero, List.set_cons_succ])
      refine wpAnyH_at (i := 23) (v := ?v23) (d := 80) rfl rfl (by kernel_rfl) (by kernel_rfl) (by kernel_rfl) (fun _ _ _ h => h) (Or.inl ⟨by rfl, fun w' hSw => ?hy23⟩) (by assumption) ?rest23
      case hy23 =>
        (try dsimp only at hSw)
        go_simp
        (try with_reducible rfl)
      (try simp only [Act.put, List.setIfInBounds_toArray, List.set_cons_zero, List.set_cons_succ])
      refine wpAnyH_at (i := 24) (v := ?v24) (d := 81) rfl rfl (by kernel_rfl) (by kernel_rfl) (by kernel_rfl) (fun _ _ _ h => h) (Or.inl ⟨by rfl, fun w' hSw => ?hy24⟩) (by assumption) ?rest24
      case hy24 =>
        (try dsimp only at hSw)
        go_simp
        (try with_reducible rfl)
      (try simp only [Act.put, List.setIfInBounds_toArray, List.set_cons_zero, List.set_cons_succ])
      refine wpAnyH_at (i := 25) (v := ?v25) (d := 82) rfl rfl (by kernel_rfl) (by kernel_rfl) (by kernel_rfl) (fun _ _ _ h => h) (Or.inl ⟨by rfl, fun w' hSw => ?hy25⟩) (by assumption) ?rest25
      case hy25 =>
        (try dsimp only at hSw)
        go_simp
        (try with_reducible rfl)
      (try simp only [Act.put, List.setIfInBounds_toArray, List.set_cons_zero, List.set_cons_succ])
      refine wpAnyH_at (i := 26) (v := ?v26) (d := 83) rfl rfl (by kernel_rfl) (by kernel_rfl) (by kernel_rfl) (fun _ _ _ h => h) (Or.inl ⟨by rfl, fun w' hSw => ?hy26⟩) (by assumption) ?rest26
      case hy26 =>
        (try dsimp only at hSw)
        go_simp
        (try with_reducible rfl)
      (try simp only [Act.put, List.setIfInBounds_toArray, List.set_cons_zero, List.set_cons_succ])
      refine wpAnyH_at (i := 27) (v := ?v27) (d := 84) rfl rfl (by kernel_rfl) (by kernel_rfl) (by kernel_rfl) (fun _ _ _ h => h) (Or.inl ⟨by rfl, fun w' hSw => ?hy27⟩) (by assumption) ?rest27
      case hy27 =>
        (try dsimp only at hSw)
        go_simp
        (try with_reducible rfl)
      (try simp only [Act.put, List.setIfInBounds_toArray, List.set_cons_zero, List.set_cons_succ])
      refine wpAnyH_done (by kernel_rfl) ?_ _
      go_wp2_with fail
      rw [HAL.out]
      have HE6 := hide (HE.out.below HB6.out)
      have HBT6 := hide (HBT.out.below HB6.out)
      go_loopw [14] (fun iv wq => ∃ j : Nat, iv = .int .i64 j ∧ j ≤ al.size ∧ Hid (Below w6.heap.size w6 wq)) (fun iv _ => al.size - (intOf iv).toNat)
      case atStart => exact ⟨0, rfl, by omega, hide (drew_b w6)⟩
      case round =>
        obtain ⟨j, rfl, hj, HW⟩ := hrel
        by_cases hlj : j < al.size
        · have hx := HCS.out j hlj
          obtain ⟨b7, o7, rfl, hb7, y0, y1, -, -, -, -⟩ := ClsAt.at (show ClsAt wr A5 fy.cs from RowOf.below HCL.out HW.out) hx
          have x2 := kcG HW.out e2
          have hb9 : al[j].toNat < 256 := al[j].toNat_lt
          have hj0 : (0 : Int) ≤ (j : Int) := by omega
          have hj1 : (j : Int) < (al.size : Int) := by omega
          have hj2 : (j : Int) < (N : Int) := by omega
          have hw9 : IntKind.i32.wrap (al[j].toNat : Int) = (al[j].toNat : Int) := by simp [IntKind.wrap_i32]; omega
          have y0' : wr.cell? ⟨b7, o7 + j * 6, none⟩ = some (.int .i32 (al[j].toNat : Int)) := y0
          have y1' : wr.cell? ⟨b7, o7 + j * 6 + 1, none⟩ = some (.int .i64 1) := y1
          clear hx y0 y1
          go_wp2_with fail
          refine wp_region_held_drew (S := (fun W => W.cell? ⟨b6, 2, none⟩ = some (.slice (some ⟨b7, o7, none⟩) N c5) ∧ W.cell? ⟨b7, o7 + j * 6, none⟩ = some (.int .i32 (al[j].toNat : Int)) ∧ W.cell? ⟨b7, o7 + j * 6 + 1, none⟩ = some (.int .i64 1))) (by kernel_rfl) ?_ (fun hHeld => ?_)
          · exact ⟨x2, y0', y1'⟩
          refine wpAnyH_at (i := 0) (v := ?vb0) (d := 93) rfl rfl (by kernel_rfl) (by kernel_rfl) (by kernel_rfl) (fun _ _ _ h => h) (Or.inl ⟨by rfl, fun w' hSw => ?hyb0⟩) (by assumption) ?restb0
          case hyb0 =>
            (try dsimp only at hSw)
            go_simp
            (try with_reducible rfl)
          (try simp only [Act.put, List.setIfInBounds_toArray, List.set_cons_zero, List.set_cons_succ])
          refine wpAnyH_at (i := 1) (v := ?vb1) (d := 94) rfl rfl (by kernel_rfl) (by kernel_rfl) (by kernel_rfl) (fun _ _ _ h => h) (Or.inl ⟨by rfl, fun w' hSw => ?hyb1⟩) (by assumption) ?restb1
          case hyb1 =>
            (try dsimp only at hSw)
            go_simp
            (try with_reducible rfl)
          (try simp only [Act.put, List.setIfInBounds_toArray, List.set_cons_zero, List.set_cons_succ])
          refine wpAnyH_at (i := 2) (v := ?vb2) (d := 95) rfl rfl (by kernel_rfl) (by kernel_rfl) (by kernel_rfl) (fun _ _ _ h => h) (Or.inl ⟨by rfl, fun w' hSw => ?hyb2⟩) (by assumption) ?restb2
          case hyb2 =>
            (try dsimp only at hSw)
            go_simp
            (try with_reducible rfl)
          (try simp only [Act.put, List.setIfInBounds_toArray, List.set_cons_zero, List.set_cons_succ])
          refine wpAnyH_at (i := 3) (v := ?vb3) (d := 96) rfl rfl (by kernel_rfl) (by kernel_rfl) (by kernel_rfl) (fun _ _ _ h => h) (Or.inl ⟨by rfl, fun w' hSw => ?hyb3⟩) (by assumption) ?restb3
          case hyb3 =>
            (try dsimp only at hSw)
            go_simp
            (try with_reducible rfl)
          (try simp only [Act.put, List.setIfInBounds_toArray, List.set_cons_zero, List.set_cons_succ])
          refine wpAnyH_at (i := 4) (v := ?vb4) (d := 97) rfl rfl (by kernel_rfl) (by kernel_rfl) (by kernel_rfl) (fun _ _ _ h => h) (Or.inl ⟨by rfl, fun w' hSw => ?hyb4⟩) (by assumption) ?restb4
          case hyb4 =>
            (try dsimp only at hSw)
            go_simp
            (try with_reducible rfl)
          (try simp only [Act.put, List.setIfInBounds_toArray, List.set_cons_zero, List.set_cons_succ])
          refine wpAnyH_at (i := 5) (v := ?vb5) (d := 98) rfl rfl (by kernel_rfl) (by kernel_rfl) (by kernel_rfl) (fun _ _ _ h => h) (Or.inl ⟨by rfl, fun w' hSw => ?hyb5⟩) (by assumption) ?restb5
          case hyb5 =>
            (try dsimp only at hSw)
            go_simp
            (try with_reducible rfl)
          (try simp only [Act.put, List.setIfInBounds_toArray, List.set_cons_zero, List.set_cons_succ])
          refine wpAnyH_at (i := 6) (v := ?vb6) (d := 99) rfl rfl (by kernel_rfl) (by kernel_rfl) (by kernel_rfl) (fun _ _ _ h => h) (Or.inl ⟨by rfl, fun w' hSw => ?hyb6⟩) (by assumption) ?restb6
          case hyb6 =>
            (try dsimp only at hSw)
            go_simp
            (try with_reducible rfl)
          (try simp only [Act.put, List.setIfInBounds_toArray, List.set_cons_zero, List.set_cons_succ])
          refine wpAnyH_at (i := 7) (v := ?vb7) (d := 100) rfl rfl (by kernel_rfl) (by kernel_rfl) (by kernel_rfl) (fun _ _ _ h => h) (Or.inl ⟨by rfl, fun w' hSw => ?hyb7⟩) (by assumption) ?restb7
          case hyb7 =>
            (try dsimp only at hSw)
            go_simp
            (try with_reducible rfl)
          (try simp only [Act.put, List.setIfInBounds_toArray, List.set_cons_zero, List.set_cons_succ])
          refine wpAnyH_at (i := 8) (v := ?vb8) (d := 101) rfl rfl (by kernel_rfl) (by kernel_rfl) (by kernel_rfl) (fun _ _ _ h => h) (Or.inl ⟨by rfl, fun w' hSw => ?hyb8⟩) (by assumption) ?restb8
          case hyb8 =>
            (try dsimp only at hSw)
            go_simp
            (try with_reducible rfl)
          (try simp only [Act.put, List.setIfInBounds_toArray, List.set_cons_zero, List.set_cons_succ])
          refine wpAnyH_at (i := 9) (v := ?vb9) (d := 102) rfl rfl (by kernel_rfl) (by kernel_rfl) (by kernel_rfl) (fun _ _ _ h => h) (Or.inl ⟨by rfl, fun w' hSw => ?hyb9⟩) (by assumption) ?restb9
          case hyb9 =>
            (try dsimp only at hSw)
            go_simp
            (try with_reducible rfl)
          (try simp only [Act.put, List.setIfInBounds_toArray, List.set_cons_zero, List.set_cons_succ])
          refine wpAnyH_at (i := 10) (v := ?vb10) (d := 103) rfl rfl (by kernel_rfl) (by kernel_rfl) (by kernel_rfl) (fun _ _ _ h => h) (Or.inl ⟨by rfl, fun w' hSw => ?hyb10⟩) (by assumption) ?restb10
          case hyb10 =>
            (try dsimp only at hSw)
            go_simp
            (try with_reducible rfl)
          (try simp only [Act.put, List.setIfInBounds_toArray, List.set_cons_zero, List.set_cons_succ])
          refine wpAnyH_at (i := 11) (v := ?vb11) (d := 104) rfl rfl (by kernel_rfl) (by kernel_rfl) (by kernel_rfl) (fun _ _ _ h => h) (Or.inl ⟨by rfl, fun w' hSw => ?hyb11⟩) (by assumption) ?restb11
          case hyb11 =>
            (try dsimp only at hSw)
            go_simp
            (try with_reducible rfl)
          (try simp only [Act.put, List.setIfInBounds_toArray, List.set_cons_zero, List.set_cons_succ])
          refine wpAnyH_at (i := 12) (v := ?vb12) (d := 105) rfl rfl (by kernel_rfl) (by kernel_rfl) (by kernel_rfl) (fun _ _ _ h => h) (Or.inl ⟨by rfl, fun w' hSw => ?hyb12⟩) (by assumption) ?restb12
          case hyb12 =>
            (try dsimp only at hSw)
            go_simp
            (try with_reducible rfl)
          (try simp only [Act.put, List.setIfInBounds_toArray, List.set_cons_zero, List.set_cons_succ])
          refine wpAnyH_at (i := 13) (v := ?vb13) (d := 106) rfl rfl (by kernel_rfl) (by kernel_rfl) (by kernel_rfl) (fun _ _ _ h => h) (Or.inl ⟨by rfl, fun w' hSw => ?hyb13⟩) (by assumption) ?restb13
          case hyb13 =>
            (try dsimp only at hSw)
            go_simp
            (try with_reducible rfl)
          (try simp only [Act.put, List.setIfInBounds_toArray, List.set_cons_zero, List.set_cons_succ])
          refine wpAnyH_at (i := 14) (v := ?vb14) (d := 107) rfl rfl (by kernel_rfl) (by kernel_rfl) (by kernel_rfl) (fun _ _ _ h => h) (Or.inl ⟨by rfl, fun w' hSw => ?hyb14⟩) (by assumption) ?restb14
          case hyb14 =>
            (try dsimp only at hSw)
            go_simp
            (try with_reducible rfl)
          (try simp only [Act.put, List.setIfInBounds_toArray, List.set_cons_zero, List.set_cons_succ])
          refine wpAnyH_at (i := 15) (v := ?vb15) (d := 108) rfl rfl (by kernel_rfl) (by kernel_rfl) (by kernel_rfl) (fun _ _ _ h => h) (Or.inl ⟨by rfl, fun w' hSw => ?hyb15⟩) (by assumption) ?restb15
          case hyb15 =>
            (try dsimp only at hSw)
            go_simp
            (try with_reducible rfl)
          (try simp only [Act.put, List.setIfInBounds_toArray, List.set_cons_zero, List.set_cons_succ])
          refine wpAnyH_at (i := 16) (v := ?vb16) (d := 109) rfl rfl (by kernel_rfl) (by kernel_rfl) (by kernel_rfl) (fun _ _ _ h => h) (Or.inl ⟨by rfl, fun w' hSw => ?hyb16⟩) (by assumption) ?restb16
          case hyb16 =>
            (try dsimp only at hSw)
            go_simp
            (try with_reducible rfl)
          (try simp only [Act.put, List.setIfInBounds_toArray, List.set_cons_zero, List.set_cons_succ])
          refine wpAnyH_at (i := 17) (v := ?vb17) (d := 110) rfl rfl (by kernel_rfl) (by kernel_rfl) (by kernel_rfl) (fun _ _ _ h => h) (Or.inl ⟨by rfl, fun w' hSw => ?hyb17⟩) (by assumption) ?restb17
          case hyb17 =>
            (try dsimp only at hSw)
            go_simp
            (try with_reducible rfl)
          (try simp only [Act.put, List.setIfInBounds_toArray, List.set_cons_zero, List.set_cons_succ])
          refine wpAnyH_at (i := 18) (v := ?vb18) (d := 111) rfl rfl (by kernel_rfl) (by kernel_rfl) (by kernel_rfl) (fun _ _ _ h => h) (Or.inl ⟨by rfl, fun w' hSw => ?hyb18⟩) (by assumption) ?restb18
          case hyb18 =>
            (try dsimp only at hSw)
            go_simp
            (try with_reducible rfl)
          (try simp only [Act.put, List.setIfInBounds_toArray, List.set_cons_zero, List.set_cons_succ])
          refine wpAnyH_at (i := 19) (v := ?vb19) (d := 112) rfl rfl (by kernel_rfl) (by kernel_rfl) (by kernel_rfl) (fun _ _ _ h => h) (Or.inl ⟨by rfl, fun w' hSw => ?hyb19⟩) (by assumption) ?restb19
          case hyb19 =>
            (try dsimp only at hSw)
            go_simp
            (try with_reducible rfl)
          (try simp only [Act.put, List.setIfInBounds_toArray, List.set_cons_zero, List.set_cons_succ])
          refine wpAnyH_done (by kernel_rfl) ?_ _
          go_wp2_with fail
          go_roundw
          case rel => exact ⟨j + 1, by go_num, by omega, hide (HW.out.trans ((drew_b _).mono HW.out.size))⟩
          case measure => simp [intOf]; omega
        · have hj1 : ¬ (j : Int) < (al.size : Int) := by omega
          go_wp2_with fail
          refine (seen_any _ (HE6.out.below HW.out) (HBT6.out.below HW.out) (HG.out.up (Nat.le_trans HB6.out.size HW.out.size))).mono ?_; rintro e w8 ⟨rfl, hb8⟩
          have hbw := HB6.out.trans (HW.out.mono HB6.out.size)
          go_wp2
          go_ret
          exact ⟨rfl, hbw.trans (hb8.mono hbw.size)⟩
end Go.Proofs.YtmpajkfbiocmiaaDoor
namespace Go.Proofs.YtmpajkfbiocmiaaDoor
open Go.ChangeShapes Go.WideShapes Go.ChangeAt Go.RowKit

theorem cellsYU : Tryd.prog.cellsOf 5 = 1 := by kernel_rfl
section
variable {H : Type} {enc : TypeId × Value → H}
theorem open_bytesY {w : World} {v : Value} {d : DataW H} {p : List MemPlace} {b0 : Nat} (hv : Value.okWide Tryd.prog w .any b0 37 v) (h : DataW.Trod enc Tryd.prog w 0 (fun _ => true) true 37 v d p) :
    ∃ A cap l, v = .slice A l.length cap ∧ l.length ≤ cap ∧ cap ≤ maxLen ∧ RowOf w 1 byL A l ∧ ∀ x ∈ l, 0 ≤ x ∧ x ≤ 255 := by
  obtain ⟨A, cap, l, rfl, h1, h2, h3, _, h4⟩ := open_rows (P := Tryd.prog) (α := Int) 1 (by omega) byL (fun x => 0 ≤ x ∧ x ≤ 255) Tryd.underlying37 cellsYU (fun n cs x hl hf => by
    match cs, hl with
    | [c0], _ =>
      obtain ⟨a, e0, _, m0⟩ := DataW.trod_int Tryd.underlying5 hf
      simp only [List.cons.injEq, and_true] at e0
      exact ⟨a, by simp [byL, e0], wfB m0⟩) hv h
  exact ⟨A, cap, l, rfl, h1, h2, h4, h3⟩
end
end Go.Proofs.YtmpajkfbiocmiaaDoor
