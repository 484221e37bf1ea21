/- RegsNode, RegsBack: the walks. -/
import Derived.Test.YtfamoikmfbpigaaDoorJpar
import Derived.Test.YtfamoikmfbpigaaDoorFruled
import Derived.Test.YtfamoikmfbpigaaDoorFsame
import Derived.Tactics
import Derived.Tactics2
import Derived.Defers
import Derived.Recover
import Derived.Laws.Pointers
namespace Go.Proofs.YtfamoikmfbpigaaDoor
open Go.RowKit

set_option maxHeartbeats 2000000 in
set_option maxRecDepth 100000 in
theorem parse_wide (s : ByteArray) (w : World) (hm : 200 < s.size) (hM : s.size ≤ maxLen) :
    Calls Tryd.prog 10 #[.string s] w fun e w' => ∃ cs, e = .returned (.tuple #[.agg cs.toArray, .int .i64 ((parseP s).2 : Int)]) ∧ NdAt w.heap.size w' (parseP s).1 cs ∧ Below w.heap.size w w' := by
  have HP := hide (show parseP s = (.mk 0 noSet [], 3) by unfold parseP; rw [if_pos hm])
  unfold maxLen at hM
  have q1 : (200 : Int) < (s.size : Int) := by omega
  have e1 : (w.alloc (.cells (ndL 0 noSet (.slice none 0 0)).toArray 27)).heap.size = w.heap.size + 1 := by simp
  have b1 : Below w.heap.size w (w.alloc (.cells (ndL 0 noSet (.slice none 0 0)).toArray 27)) := (Below.refl _ _).alloc (Nat.le_refl _) _
  obtain ⟨W1, h1⟩ : ∃ W, w.alloc (.cells (ndL 0 noSet (.slice none 0 0)).toArray 27) = W := ⟨_, rfl⟩
  have k1 : Blk W1 w.heap.size 27 (ndL 0 noSet (.slice none 0 0)) := by rw [← h1]; exact Blk.new _ _ _
  rw [h1] at e1 b1
  have b2 : Below W1.heap.size W1 (W1.alloc (.cells [.int .i64 3].toArray 28)) := (Below.refl _ _).alloc (Nat.le_refl _) _
  obtain ⟨W2, h2⟩ : ∃ W, W1.alloc (.cells [.int .i64 3].toArray 28) = W := ⟨_, rfl⟩
  have k2 : Blk W2 (w.heap.size + 1) 28 [.int .i64 3] := by rw [← h2, ← e1]; exact Blk.new _ _ _
  rw [h2] at b2
  have K1 := hide (k1.below b2)
  have K2 := hide k2
  have KB := hide (b1.trans (b2.mono b1.size))
  have hmf : ∀ (fn : Fn) (first cap : Array Value) (w : World), (Instr.makeFunc fn first cap).run Tryd.prog w = .ok (.func fn first cap) w := fun _ _ _ _ => rfl
  clear e1 b1 b2 k1 k2
  have H1 := hide h1
  have H2 := hide h2
  clear h1 h2
  go_enter_defers Tryd.func10, Tryd.ntmps10
  go_wp2
  rw [show w.alloc (.cells #[.int .i64 0, .int .u64 0, .int .u64 0, .int .u64 0, .int .u64 0, .slice none 0 0] 27) = W1 from H1.out]
  rw [show W1.alloc (.cells #[.int .i64 3] 28) = W2 from H2.out]
  refine ⟨_, results_pa _ _ w.heap.size (w.heap.size + 1) _ 3 rfl rfl K1.out rfl K2.out, _, by rw [HP.out]; rfl, by rw [HP.out]; exact NdAt.leaf _ _ 0 noSet_w, KB.out⟩
theorem parse_all (r : Nat) (s : ByteArray) (w : World) (hM : s.size ≤ maxLen) (hS : SGr r w) :
    Calls Tryd.prog 10 #[.string s] w fun e w' => ∃ cs, e = .returned (.tuple #[.agg cs.toArray, .int .i64 ((parseP s).2 : Int)]) ∧ NdAt w.heap.size w' (parseP s).1 cs ∧ Below w.heap.size w w' := by
  by_cases hm : 200 < s.size
  · exact parse_wide s w hm hM
  · exact parse_any r s w (by omega) hS
/-- A box with a node, and what stays. -/
def OneB (r : Nat) (w W : World) (y : Nat) (n : Nd) (cs : List Value) (P : Nat → Prop) : Prop := Blk W y 27 cs ∧ NdX P W n cs ∧ Below w.heap.size w W ∧ SGr r W
theorem OneB.low {r : Nat} {w W V : World} {y : Nat} {n : Nd} {cs : List Value} {P : Nat → Prop} (h : OneB r w W y n cs P) (hb : Below W.heap.size W V) : OneB r w V y n cs P :=
  ⟨h.1.below hb, h.2.1.low hb, h.2.2.1.trans (hb.mono h.2.2.1.size), h.2.2.2.below hb⟩
/-- What is read of what is shown: all that the laws ask. -/
theorem whole_cases (n : Nd) (hw : wN n) : (wholeE n = [] ) ∨ (rmayE n = true ∧ wholeE n = showE n ∧ 1 ≤ (wholeE n).length ∧ (200 < (wholeE n).length ∨ (wholeE n).length ≤ 200 ∧ parseP (bl (wholeE n)) = (n, 0))) := by
  unfold wholeE
  split
  · rename_i h
    refine .inr ⟨h.1, rfl, show_pos h.1, ?_⟩
    by_cases hl : 200 < (showE n).length
    · exact .inl hl
    · exact .inr ⟨by omega, parse_show n h.1 hw (by omega)⟩
  · exact .inl rfl
set_option maxHeartbeats 4000000 in
set_option maxRecDepth 100000 in
theorem lawNode (r : Nat) (n : Nd) (cs : List Value) (P : Nat → Prop) (w : World) (hn : NdX P w n cs) (hS : SGr r w) :
    Calls Tryd.prog 7 #[.agg cs.toArray] w fun e W' => e = .returned (.bool true) ∧ Below w.heap.size w W' := by
  have hways := whole_cases n (NdX.sets n cs hn)
  obtain ⟨k, x0, x1, x2, x3, A, m, cap, rfl, -, -⟩ := hn.form
  have HO0 := hide (show OneB r w (w.alloc (.cells (ndL k [x0, x1, x2, x3] (.slice A m cap)).toArray 27)) w.heap.size n _ P from ⟨Blk.new _ _ _, hn.low ((Below.refl _ _).alloc (Nat.le_refl _) _), (Below.refl _ _).alloc (Nat.le_refl _) _, hS.below ((Below.refl _ _).alloc (Nat.le_refl _) _)⟩)
  have HMA := hide (fun (W : World) (h : NdX P W n (ndL k [x0, x1, x2, x3] (.slice A m cap))) => show Calls Tryd.prog 15 #[.agg #[.int .i64 k, .int .u64 (x0 : Int), .int .u64 (x1 : Int), .int .u64 (x2 : Int), .int .u64 (x3 : Int), .slice A m cap], .int .i64 250] W (NatP (manyE 250 n) W) from many_any 250 n _ P W (by omega) h)
  have hza := fun h => (many_sz 250 n h).1
  have hla := many_le 250 n
  obtain ⟨q, hq⟩ : ∃ q, manyE 250 n = q := ⟨_, rfl⟩
  rw [hq] at HMA hza hla
  have HZA := hide (show q ≤ 300 → szN n ≤ 300 from fun h => by have := hza h; omega)
  clear hza hq
  obtain ⟨s, hs⟩ : ∃ s : ByteArray, bl (wholeE n) = s := ⟨_, rfl⟩
  have hsl : s.size = (wholeE n).length := by rw [← hs]; rfl
  have HSH := hide (fun (W : World) (hz : szN n ≤ 2000) (h : NdX P W n (ndL k [x0, x1, x2, x3] (.slice A m cap))) => show Calls Tryd.prog 16 #[.agg #[.int .i64 k, .int .u64 (x0 : Int), .int .u64 (x1 : Int), .int .u64 (x2 : Int), .int .u64 (x3 : Int), .slice A m cap]] W (fun e w' => e = .returned (.string s) ∧ Below W.heap.size W w') from by rw [← hs]; exact whole_any n _ P W hz h)
  have hlen : szN n ≤ 300 → s.size ≤ 800000 := fun hz => by
    rw [hsl]
    rcases hways with h | ⟨-, h, -⟩
    · rw [h]; simp
    · rw [h]; have := show_len n; omega
  have HLN := hide hlen
  have HC := hide (show s = ⟨#[]⟩ ∨ (1 ≤ s.size ∧ (200 < s.size ∨ s.size ≤ 200 ∧ parseP s = (n, 0))) from by
    rw [hsl, ← hs]
    rcases hways with h | ⟨-, -, h1, h2⟩
    · left; rw [h]
    · exact .inr ⟨h1, h2⟩)
  clear hlen hsl hs hways hn hS
  rw [show (ndL k [x0, x1, x2, x3] (.slice A m cap)).toArray = #[.int .i64 k, .int .u64 (x0 : Int), .int .u64 (x1 : Int), .int .u64 (x2 : Int), .int .u64 (x3 : Int), .slice A m cap] from rfl] at HO0 ⊢
  go_enter Tryd.func7, Tryd.ntmps7
  go_wp2_with fail
  refine (HMA.out _ HO0.out.2.1).mono ?_; rintro e w1 ⟨rfl, hb1⟩
  have HO1 := hide (HO0.out.low hb1)
  clear HO0 hb1
  by_cases h1 : 300 < q
  · go_wp2_with fail
    refine (ruled_any r _ HO1.out.2.2.2).mono ?_; rintro e w2 ⟨rfl, hb2⟩
    go_wp2
    go_ret
    exact ⟨rfl, HO1.out.2.2.1.trans (hb2.mono HO1.out.2.2.1.size)⟩
  have HZ2 := hide (HZA.out (by omega))
  have c0 := HO1.out.1.cell (i := 0) rfl
  have c1 := HO1.out.1.cell (i := 1) rfl
  have c2 := HO1.out.1.cell (i := 2) rfl
  have c3 := HO1.out.1.cell (i := 3) rfl
  have c4 := HO1.out.1.cell (i := 4) rfl
  have c5 := HO1.out.1.cell (i := 5) rfl
  go_wp2_with fail
  refine (HSH.out _ (by have := HZ2.out; omega) HO1.out.2.1).mono ?_; rintro e w2 ⟨rfl, hb2⟩
  have HO2 := hide (HO1.out.low hb2)
  have hsz := HLN.out HZ2.out
  clear HO1 hb2 HLN c0 c1 c2 c3 c4 c5
  rcases HC.out with h0 | ⟨hp, hway⟩
  · clear HC
    subst h0
    go_wp2_with fail
    refine (ruled_any r _ HO2.out.2.2.2).mono ?_; rintro e w3 ⟨rfl, hb3⟩
    go_wp2
    go_ret
    exact ⟨rfl, HO2.out.2.2.1.trans (hb3.mono HO2.out.2.2.1.size)⟩
  have hne := ne_emp (s := s) (by omega)
  clear HC
  by_cases h2 : 200 < s.size
  · clear hway
    go_wp2_with fail
    refine (ruled_any r _ HO2.out.2.2.2).mono ?_; rintro e w3 ⟨rfl, hb3⟩
    go_wp2
    go_ret
    exact ⟨rfl, HO2.out.2.2.1.trans (hb3.mono HO2.out.2.2.1.size)⟩
  have HP := hide (hway.resolve_left h2).2
  clear hway
  have HPA := hide (fun W (h : SGr r W) => show Calls Tryd.prog 10 #[.string s] W fun e w' => ∃ cs, e = .returned (.tuple #[.agg cs.toArray, .int .i64 0]) ∧ NdAt W.heap.size w' n cs ∧ Below W.heap.size W w' from by
    have := parse_any r s W (by omega) h
    rw [HP.out] at this
    exact this)
  go_wp2_with fail
  refine (HPA.out _ HO2.out.2.2.2).mono ?_; rintro e w3 ⟨ds, rfl, hn3, hb3⟩
  have HO3 := hide (HO2.out.low hb3)
  have hx := NdX.of _ _ hn3
  obtain ⟨k', y0, y1, y2, y3, A', m', cap', rfl, -, -⟩ := hx.form
  have HN := hide (box_any hx (Below.refl _ _))
  have HO4 := hide (HO3.out.low HN.out.2.1)
  clear HO2 HO3 hn3 hx hb3
  rw [show (ndL k' [y0, y1, y2, y3] (.slice A' m' cap')).toArray = #[.int .i64 k', .int .u64 (y0 : Int), .int .u64 (y1 : Int), .int .u64 (y2 : Int), .int .u64 (y3 : Int), .slice A' m' cap'] from rfl] at HN HO4 ⊢
  have HSA := hide (same_any (szN n + 1) n n _ _ _ _ _ (by omega) HO4.out.2.1 HN.out.1)
  rw [show (ndL k [x0, x1, x2, x3] (.slice A m cap)).toArray = #[.int .i64 k, .int .u64 (x0 : Int), .int .u64 (x1 : Int), .int .u64 (x2 : Int), .int .u64 (x3 : Int), .slice A m cap] from rfl, show (ndL k' [y0, y1, y2, y3] (.slice A' m' cap')).toArray = #[.int .i64 k', .int .u64 (y0 : Int), .int .u64 (y1 : Int), .int .u64 (y2 : Int), .int .u64 (y3 : Int), .slice A' m' cap'] from rfl] at HSA
  have c0 := HO4.out.1.cell (i := 0) rfl
  have c1 := HO4.out.1.cell (i := 1) rfl
  have c2 := HO4.out.1.cell (i := 2) rfl
  have c3 := HO4.out.1.cell (i := 3) rfl
  have c4 := HO4.out.1.cell (i := 4) rfl
  have c5 := HO4.out.1.cell (i := 5) rfl
  go_wp2_with fail
  refine HSA.out.mono ?_; rintro e w5 ⟨b5, rfl, hb, hb5⟩
  obtain rfl := hb.2 rfl
  have HO5 := hide (HO4.out.low hb5)
  clear HO4 hb5 hb c0 c1 c2 c3 c4 c5
  go_wp2_with fail
  refine (ruled_any r _ HO5.out.2.2.2).mono ?_; rintro e w6 ⟨rfl, hb6⟩
  go_wp2
  go_ret
  exact ⟨rfl, HO5.out.2.2.1.trans (hb6.mono HO5.out.2.2.1.size)⟩
end Go.Proofs.YtfamoikmfbpigaaDoor
