/- RegsShow: the walk. -/
import Derived.Test.YtfamoikmfbpigaaDoorFruled
import Derived.Test.YtfamoikmfbpigaaDoorFcopy
import Derived.Test.YtfamoikmfbpigaaDoorFrsame
import Derived.Deep.RegionHeld3
namespace Go.Proofs.YtfamoikmfbpigaaDoor
open Go.RowKit

/-- Two boxes, each with a node. -/
def TwoB (w W : World) (y z : Nat) (na nb : Nd) (ca cb : List Value) (P : Nat → Prop) : Prop := Blk W y 27 ca ∧ Blk W z 27 cb ∧ NdX P W na ca ∧ NdX P W nb cb ∧ Below w.heap.size w W
theorem TwoB.low {w W V : World} {y z : Nat} {na nb : Nd} {ca cb : List Value} {P : Nat → Prop} (h : TwoB w W y z na nb ca cb P) (hb : Below W.heap.size W V) : TwoB w V y z na nb ca cb P :=
  ⟨h.1.below hb, h.2.1.below hb, h.2.2.1.low hb, h.2.2.2.1.low hb, h.2.2.2.2.trans (hb.mono h.2.2.2.2.size)⟩
theorem iff_same {b c : Bool} {p : Prop} (h : b = true ↔ p) (h2 : c = true ↔ p) : c = b := by
  rw [Bool.eq_iff_iff, h, h2]
theorem iff_true {b : Bool} {p : Prop} (h : b = true ↔ p) (hp : p) : b = true := h.2 hp
theorem six (W : World) (z : Nat) (k : Int) (x0 x1 x2 x3 : Nat) (v : Value) (h : Blk W z 27 (ndL k [x0, x1, x2, x3] v)) : W.cell? ⟨z, 0, none⟩ = some (.int .i64 k) ∧ W.cell? ⟨z, 1, none⟩ = some (.int .u64 (x0 : Int)) ∧ W.cell? ⟨z, 2, none⟩ = some (.int .u64 (x1 : Int)) ∧ W.cell? ⟨z, 3, none⟩ = some (.int .u64 (x2 : Int)) ∧ W.cell? ⟨z, 4, none⟩ = some (.int .u64 (x3 : Int)) ∧ W.cell? ⟨z, 5, none⟩ = some v :=
  ⟨h.cell (i := 0) rfl, h.cell (i := 1) rfl, h.cell (i := 2) rfl, h.cell (i := 3) rfl, h.cell (i := 4) rfl, h.cell (i := 5) rfl⟩
def SixC (W : World) (z : Nat) (k : Int) (x0 x1 x2 x3 : Nat) (v : Value) : Prop := W.cell? ⟨z, 0, none⟩ = some (.int .i64 k) ∧ W.cell? ⟨z, 1, none⟩ = some (.int .u64 (x0 : Int)) ∧ W.cell? ⟨z, 2, none⟩ = some (.int .u64 (x1 : Int)) ∧ W.cell? ⟨z, 3, none⟩ = some (.int .u64 (x2 : Int)) ∧ W.cell? ⟨z, 4, none⟩ = some (.int .u64 (x3 : Int)) ∧ W.cell? ⟨z, 5, none⟩ = some v
set_option maxHeartbeats 8000000 in
set_option maxRecDepth 100000 in
theorem lawShow (r : Nat) (na nb : Nd) (ca cb : List Value) (P : Nat → Prop) (c : Nat) (w : World) (hc : c < 256) (ha : NdX P w na ca) (hb : NdX P w nb cb) (hS : SGr r w) :
    Calls Tryd.prog 5 #[.agg ca.toArray, .agg cb.toArray, .int .u8 (c : Int)] w fun e W' => e = .returned (.bool true) ∧ Below w.heap.size w W' := by
  obtain ⟨k, x0, x1, x2, x3, A, m, cap, rfl, -, -⟩ := ha.form
  obtain ⟨k', y0, y1, y2, y3, A', m', cap', rfl, -, -⟩ := hb.form
  have hw4 : W64 [x0, x1, x2, x3] := by
    cases na with
    | mk q S L =>
      obtain ⟨_, _, _, _, _, _, _, e, h, _⟩ := ha.parts
      simp [ndL] at e
      obtain ⟨-, e0, e1, e2, e3, -⟩ := e
      obtain rfl := Int.ofNat.inj e0
      obtain rfl := Int.ofNat.inj e1
      obtain rfl := Int.ofNat.inj e2
      obtain rfl := Int.ofNat.inj e3
      exact h
  have HW4 := hide hw4
  have HB0 := hide (two_box w 27 27 (ndL k [x0, x1, x2, x3] (.slice A m cap)) (ndL k' [y0, y1, y2, y3] (.slice A' m' cap')))
  have HT0 := hide (show TwoB w ((w.alloc (.cells (ndL k [x0, x1, x2, x3] (.slice A m cap)).toArray 27)).alloc (.cells (ndL k' [y0, y1, y2, y3] (.slice A' m' cap')).toArray 27)) w.heap.size (w.heap.size + 1) na nb _ _ P from ⟨HB0.out.1, HB0.out.2.1, ha.low HB0.out.2.2, hb.low HB0.out.2.2, HB0.out.2.2⟩)
  have HSG := hide (fun W (h : Below w.heap.size w W) => hS.below h)
  have HMA := hide (fun (W : World) (h : NdX P W na (ndL k [x0, x1, x2, x3] (.slice A m cap))) => show Calls Tryd.prog 15 #[.agg #[.int .i64 k, .int .u64 (x0 : Int), .int .u64 (x1 : Int), .int .u64 (x2 : Int), .int .u64 (x3 : Int), .slice A m cap], .int .i64 250] W (NatP (manyE 250 na) W) from many_any 250 na _ P W (by omega) h)
  have HMB := hide (fun (W : World) (h : NdX P W nb (ndL k' [y0, y1, y2, y3] (.slice A' m' cap'))) => show Calls Tryd.prog 15 #[.agg #[.int .i64 k', .int .u64 (y0 : Int), .int .u64 (y1 : Int), .int .u64 (y2 : Int), .int .u64 (y3 : Int), .slice A' m' cap'], .int .i64 250] W (NatP (manyE 250 nb) W) from many_any 250 nb _ P W (by omega) h)
  have hza := fun h => (many_sz 250 na h).1
  have hzb := fun h => (many_sz 250 nb h).1
  have hla := many_le 250 na
  have hlb := many_le 250 nb
  obtain ⟨q, hq⟩ : ∃ q, manyE 250 na = q := ⟨_, rfl⟩
  obtain ⟨q', hq'⟩ : ∃ q, manyE 250 nb = q := ⟨_, rfl⟩
  rw [hq] at HMA hza hla
  rw [hq'] at HMB hzb hlb
  have HZA := hide (show q ≤ 300 → szN na ≤ 300 from fun h => by have := hza h; omega)
  have HZB := hide (show q' ≤ 300 → szN nb ≤ 300 from fun h => by have := hzb h; omega)
  clear hza hzb hq hq' ha hb hS hw4 HB0
  rw [show (ndL k [x0, x1, x2, x3] (.slice A m cap)).toArray = #[.int .i64 k, .int .u64 (x0 : Int), .int .u64 (x1 : Int), .int .u64 (x2 : Int), .int .u64 (x3 : Int), .slice A m cap] from rfl, show (ndL k' [y0, y1, y2, y3] (.slice A' m' cap')).toArray = #[.int .i64 k', .int .u64 (y0 : Int), .int .u64 (y1 : Int), .int .u64 (y2 : Int), .int .u64 (y3 : Int), .slice A' m' cap'] from rfl] at HT0 ⊢
  go_enter Tryd.func5, Tryd.ntmps5
  go_wp2_with fail
  refine (HMA.out _ HT0.out.2.2.1).mono ?_; rintro e w1 ⟨rfl, hb1⟩
  have HT1 := hide (HT0.out.low hb1)
  clear HT0 hb1
  have b0 := HT1.out.2.1.cell (i := 0) rfl
  have b1 := HT1.out.2.1.cell (i := 1) rfl
  have b2 := HT1.out.2.1.cell (i := 2) rfl
  have b3 := HT1.out.2.1.cell (i := 3) rfl
  have b4 := HT1.out.2.1.cell (i := 4) rfl
  have b5 := HT1.out.2.1.cell (i := 5) rfl
  by_cases h1 : 300 < q
  · go_wp2_with fail
    refine (ruled_any r _ (HSG.out _ HT1.out.2.2.2.2)).mono ?_; rintro e w2 ⟨rfl, hb2⟩
    go_wp2
    go_ret
    exact ⟨rfl, HT1.out.2.2.2.2.trans (hb2.mono HT1.out.2.2.2.2.size)⟩
  go_wp2_with fail
  refine (HMB.out _ HT1.out.2.2.2.1).mono ?_; rintro e w2 ⟨rfl, hb2⟩
  have HT2 := hide (HT1.out.low hb2)
  clear HT1 hb2 b0 b1 b2 b3 b4 b5
  by_cases h2 : 300 < q'
  · go_wp2_with fail
    refine (ruled_any r _ (HSG.out _ HT2.out.2.2.2.2)).mono ?_; rintro e w3 ⟨rfl, hb3⟩
    go_wp2
    go_ret
    exact ⟨rfl, HT2.out.2.2.2.2.trans (hb3.mono HT2.out.2.2.2.2.size)⟩
  have HZA2 := hide (HZA.out (by omega))
  have HZB2 := hide (HZB.out (by omega))
  clear HZA HZB
  go_wp2_with fail
  obtain ⟨s, hs⟩ : ∃ s : ByteArray, ⟨(wholeE na).toArray⟩ = s := ⟨_, rfl⟩
  have HSH := hide (fun (W : World) (h : NdX P W na (ndL k [x0, x1, x2, x3] (.slice A m cap))) => show Calls Tryd.prog 16 #[.agg #[.int .i64 k, .int .u64 (x0 : Int), .int .u64 (x1 : Int), .int .u64 (x2 : Int), .int .u64 (x3 : Int), .slice A m cap]] W (fun e w' => e = .returned (.string s) ∧ Below W.heap.size W w') from by rw [← hs]; exact whole_any na _ P W (by have := HZA2.out; omega) h)
  have HRS := hide (fun (cs : List Value) (B : Nat) (W : World) (h : NdAt B W na cs) => show Calls Tryd.prog 17 #[.agg cs.toArray] W (fun e w' => e = .returned (.string s) ∧ Below W.heap.size W w') from by rw [← hs]; exact rwhole_any na _ _ W (by have := HZA2.out; omega) (NdX.of _ _ h))
  clear hs
  have HRA := hide (fun (W : World) (h : NdX P W na (ndL k [x0, x1, x2, x3] (.slice A m cap))) => show Calls Tryd.prog 13 #[.agg #[.int .i64 k, .int .u64 (x0 : Int), .int .u64 (x1 : Int), .int .u64 (x2 : Int), .int .u64 (x3 : Int), .slice A m cap]] W _ from ref_any (szN na + 1) na _ P W (by omega) (by have := HZA2.out; omega) h)
  have HRB := hide (fun (W : World) (h : NdX P W nb (ndL k' [y0, y1, y2, y3] (.slice A' m' cap'))) => show Calls Tryd.prog 13 #[.agg #[.int .i64 k', .int .u64 (y0 : Int), .int .u64 (y1 : Int), .int .u64 (y2 : Int), .int .u64 (y3 : Int), .slice A' m' cap']] W _ from ref_any (szN nb + 1) nb _ P W (by omega) (by have := HZB2.out; omega) h)
  have HAB := hide (fun (W : World) (h : NdX P W na (ndL k [x0, x1, x2, x3] (.slice A m cap))) (h2 : NdX P W nb (ndL k' [y0, y1, y2, y3] (.slice A' m' cap'))) => show Calls Tryd.prog 18 #[.agg #[.int .i64 k, .int .u64 (x0 : Int), .int .u64 (x1 : Int), .int .u64 (x2 : Int), .int .u64 (x3 : Int), .slice A m cap], .agg #[.int .i64 k', .int .u64 (y0 : Int), .int .u64 (y1 : Int), .int .u64 (y2 : Int), .int .u64 (y3 : Int), .slice A' m' cap']] W (SameP na nb W) from same_any (szN na + 1) na nb _ _ P P W (by omega) h h2)
  have HAA := hide (fun (W : World) (h : NdX P W na (ndL k [x0, x1, x2, x3] (.slice A m cap))) => show Calls Tryd.prog 18 #[.agg #[.int .i64 k, .int .u64 (x0 : Int), .int .u64 (x1 : Int), .int .u64 (x2 : Int), .int .u64 (x3 : Int), .slice A m cap], .agg #[.int .i64 k, .int .u64 (x0 : Int), .int .u64 (x1 : Int), .int .u64 (x2 : Int), .int .u64 (x3 : Int), .slice A m cap]] W (SameP na na W) from same_any (szN na + 1) na na _ _ P P W (by omega) h h)
  have HX := hide (show Below w2.heap.size w2 w2.drew from (Below.refl _ _).drew)
  have HSS := hide (fun W (hW : Below w2.heap.size w2 W) => show SixC W w.heap.size k x0 x1 x2 x3 (.slice A m cap) ∧ SixC W (w.heap.size + 1) k' y0 y1 y2 y3 (.slice A' m' cap') from ⟨six _ _ _ _ _ _ _ _ (HT2.out.1.below hW), six _ _ _ _ _ _ _ _ (HT2.out.2.1.below hW)⟩)
  have TK1 : True := trivial
  go_region_held3 (fun W => (W.cell? ⟨w.heap.size, 0, none⟩ = some (.int .i64 k) ∧ W.cell? ⟨w.heap.size, 1, none⟩ = some (.int .u64 (x0 : Int)) ∧ W.cell? ⟨w.heap.size, 2, none⟩ = some (.int .u64 (x1 : Int)) ∧ W.cell? ⟨w.heap.size, 3, none⟩ = some (.int .u64 (x2 : Int)) ∧ W.cell? ⟨w.heap.size, 4, none⟩ = some (.int .u64 (x3 : Int)) ∧ W.cell? ⟨w.heap.size, 5, none⟩ = some (.slice A m cap)) ∧ (W.cell? ⟨w.heap.size + 1, 0, none⟩ = some (.int .i64 k') ∧ W.cell? ⟨w.heap.size + 1, 1, none⟩ = some (.int .u64 (y0 : Int)) ∧ W.cell? ⟨w.heap.size + 1, 2, none⟩ = some (.int .u64 (y1 : Int)) ∧ W.cell? ⟨w.heap.size + 1, 3, none⟩ = some (.int .u64 (y2 : Int)) ∧ W.cell? ⟨w.heap.size + 1, 4, none⟩ = some (.int .u64 (y3 : Int)) ∧ W.cell? ⟨w.heap.size + 1, 5, none⟩ = some (.slice A' m' cap')))
    (exact HSS.out _ HX.out)
    (first
      | (go_at_call 16; have tk := TK1; refine (HSH.out _ (HT2.out.2.2.1.low HX.out)).mono ?_; rintro e v1 ⟨rfl, hb1⟩; replace HX := hide (HX.out.trans (hb1.mono HX.out.size)); clear hb1; clear TK1 tk; have TK2 : True := trivial)
      | (go_at_call 13; have tk := TK2; refine (HRA.out _ (HT2.out.2.2.1.low HX.out)).mono ?_; rintro e v2 ⟨u2, rfl, ⟨cr, rfl, hn2⟩, hb2⟩; have HN2 := hide hn2; clear hn2; replace HX := hide (HX.out.trans (hb2.mono HX.out.size)); clear hb2; clear TK2 tk; have TK3 : True := trivial)
      | (go_at_call 17; have tk := TK3; refine (HRS.out _ _ _ HN2.out).mono ?_; rintro e v3 ⟨rfl, hb3⟩; replace HX := hide (HX.out.trans (hb3.mono HX.out.size)); clear HN2; clear hb3; clear TK3 tk; have TK4 : True := trivial)
      | (go_at_call 18; have tk := TK4; refine (HAB.out _ (HT2.out.2.2.1.low HX.out) (HT2.out.2.2.2.1.low HX.out)).mono ?_; rintro e v4 ⟨bs, rfl, hbs, hb4⟩; have HBS := hide hbs; clear hbs; replace HX := hide (HX.out.trans (hb4.mono HX.out.size)); clear hb4; clear TK4 tk; have TK5 : True := trivial)
      | (go_at_call 13; have tk := TK5; refine (HRA.out _ (HT2.out.2.2.1.low HX.out)).mono ?_; rintro e v5 ⟨u5, rfl, ⟨cr5, rfl, hn5⟩, hb5⟩; have HN5 := hide hn5; clear hn5; replace HX := hide (HX.out.trans (hb5.mono HX.out.size)); clear hb5; clear TK5 tk; have TK6 : True := trivial)
      | (go_at_call 13; have tk := TK6; refine (HRB.out _ (HT2.out.2.2.2.1.low HX.out)).mono ?_; rintro e v6 ⟨u6, rfl, ⟨cr6, rfl, hn6⟩, hb6⟩; have HN6 := hide hn6; replace HN5 := hide (HN5.out.below hb6); clear hn6; replace HX := hide (HX.out.trans (hb6.mono HX.out.size)); clear hb6; clear TK6 tk; have TK7 : True := trivial)
      | (go_at_call 12; have tk := TK7; refine (rsame_any (szN na + 1) na nb _ _ _ _ _ (by omega) (NdX.of _ _ HN5.out) (NdX.of _ _ HN6.out)).mono ?_; rintro e v7 ⟨b7, rfl, h7, hb7⟩; obtain rfl := iff_same HBS.out h7; clear h7 HN5 HN6; replace HX := hide (HX.out.trans (hb7.mono HX.out.size)); clear hb7; clear TK7 tk; have TK8 : True := trivial)
      | (go_at_call 18; have tk := TK8; refine (HAA.out _ (HT2.out.2.2.1.low HX.out)).mono ?_; rintro e v8 ⟨b8, rfl, h8, hb8⟩; obtain rfl := iff_true h8 rfl; clear h8; replace HX := hide (HX.out.trans (hb8.mono HX.out.size)); clear hb8; clear TK8 tk; have TK9 : True := trivial)
      | (go_at_call 14; have tk := TK9; refine (has_any x0 x1 x2 x3 c _ HW4.out hc).mono ?_; rintro e v9 ⟨rfl, hb9⟩; replace HX := hide (HX.out.trans (hb9.mono HX.out.size)); clear hb9; clear TK9 tk; have TK10 : True := trivial)
      | (go_at_call 19; have tk := TK10; refine (rhas_any x0 x1 x2 x3 c _ HW4.out hc).mono ?_; rintro e v10 ⟨rfl, hb10⟩; replace HX := hide (HX.out.trans (hb10.mono HX.out.size)); clear hb10; clear TK10 tk; have TK11 : True := trivial)
      | (go_at_call 9; have tk := TK11; refine (ruled_any r _ (HSG.out _ (HT2.out.2.2.2.2.trans (HX.out.mono HT2.out.2.2.2.2.size)))).mono ?_; rintro e v11 ⟨rfl, hb11⟩; replace HX := hide (HX.out.trans (hb11.mono HX.out.size)); clear hb11; clear TK11 tk; have TK12 : True := trivial)
      | fail)
  all_goals go_wp2
  all_goals go_ret
  all_goals exact ⟨rfl, HT2.out.2.2.2.2.trans (HX.out.mono HT2.out.2.2.2.2.size)⟩
end Go.Proofs.YtfamoikmfbpigaaDoor
