/- limnerlaw10.again, no, ruled. -/
import Derived.Test.YtfamoikmfbpigaaDoorFwhole
import Derived.Test.YtfamoikmfbpigaaDoorEparse
namespace Go.Proofs.YtfamoikmfbpigaaDoor
open Go.RowKit

theorem box_any {P : Nat → Prop} {w W : World} {n : Nd} {cs : List Value} (h : NdX P W n cs) (hb : Below w.heap.size w W) : NdX P (W.alloc (.cells cs.toArray 27)) n cs ∧ Below w.heap.size w (W.alloc (.cells cs.toArray 27)) ∧ Blk (W.alloc (.cells cs.toArray 27)) W.heap.size 27 cs :=
  ⟨h.low ((Below.refl _ _).alloc (Nat.le_refl _) _), hb.alloc hb.size _, Blk.new _ _ _⟩
def againB (s want : ByteArray) : Bool := (parseP s).2 == 0 && decide (s.size ≤ 1000) && decide (szN (parseP s).1 ≤ 2000) && wholeE (parseP s).1 == want.data.toList
def noB (s : ByteArray) : Bool := (parseP s).2 == 10 && decide (s.size ≤ 1000)
set_option maxHeartbeats 2000000 in
set_option maxRecDepth 100000 in
theorem again_yes (r : Nat) (s want : ByteArray) (w : World) (hS : SGr r w) (h : againB s want = true) :
    Calls Tryd.prog 24 #[.string s, .string want] w (BoolP true w) := by
  unfold againB at h
  simp only [Bool.and_eq_true, decide_eq_true_eq, beq_iff_eq] at h
  obtain ⟨⟨⟨h1, h2⟩, h3⟩, h4⟩ := h
  have HP := hide (parse_any r s w (by omega) hS)
  rw [h1] at HP
  have hw : (⟨(wholeE (parseP s).1).toArray⟩ : ByteArray) = want := by rw [h4]
  have HS := hide (fun (cs : List Value) (P : Nat → Prop) (W : World) (h : NdX P W (parseP s).1 cs) => show Calls Tryd.prog 16 #[.agg cs.toArray] W (fun e w' => e = .returned (.string want) ∧ Below W.heap.size W w') from by rw [← hw]; exact whole_any _ cs P W h3 h)
  clear hS h1 h2 h3 h4 hw
  go_enter Tryd.func24, Tryd.ntmps24
  go_wp2_with fail
  refine HP.out.mono ?_; rintro e w1 ⟨cs, rfl, hn, hb1⟩
  have hx := NdX.of _ _ hn
  obtain ⟨k, x0, x1, x2, x3, A, m, cap, rfl, -, -⟩ := hx.form
  have HB := hide (box_any hx hb1)
  clear hn hx hb1
  rw [show (ndL k [x0, x1, x2, x3] (.slice A m cap)).toArray = #[.int .i64 k, .int .u64 (x0 : Int), .int .u64 (x1 : Int), .int .u64 (x2 : Int), .int .u64 (x3 : Int), .slice A m cap] from rfl]
  have HC := hide (show Calls Tryd.prog 16 #[.agg #[.int .i64 k, .int .u64 (x0 : Int), .int .u64 (x1 : Int), .int .u64 (x2 : Int), .int .u64 (x3 : Int), .slice A m cap]] _ _ from HS.out _ _ _ HB.out.1)
  go_wp2_with fail
  refine HC.out.mono ?_; rintro e w2 ⟨rfl, hb2⟩
  go_wp2
  go_ret
  exact ⟨rfl, HB.out.2.1.trans (hb2.mono HB.out.2.1.size)⟩
set_option maxHeartbeats 2000000 in
set_option maxRecDepth 100000 in
theorem no_yes (r : Nat) (s : ByteArray) (w : World) (hS : SGr r w) (h : noB s = true) :
    Calls Tryd.prog 25 #[.string s] w (BoolP true w) := by
  unfold noB at h
  simp only [Bool.and_eq_true, decide_eq_true_eq, beq_iff_eq] at h
  obtain ⟨h1, h2⟩ := h
  have HP := hide (parse_any r s w (by omega) hS)
  rw [h1] at HP
  clear hS h1 h2
  go_enter Tryd.func25, Tryd.ntmps25
  go_wp2_with fail
  refine HP.out.mono ?_; rintro e w1 ⟨cs, rfl, hn, hb1⟩
  have hx := NdX.of _ _ hn
  obtain ⟨k, x0, x1, x2, x3, A, m, cap, rfl, -, -⟩ := hx.form
  have HB := hide (box_any hx hb1)
  clear hn hx hb1
  rw [show (ndL k [x0, x1, x2, x3] (.slice A m cap)).toArray = #[.int .i64 k, .int .u64 (x0 : Int), .int .u64 (x1 : Int), .int .u64 (x2 : Int), .int .u64 (x3 : Int), .slice A m cap] from rfl]
  go_wp2
  go_ret
  exact ⟨rfl, HB.out.2.1⟩
/-- The world behind some of the examples. -/
def RuS (r : Nat) (w W : World) : Prop := SGr r W ∧ Below w.heap.size w W
theorem RuS.step {r : Nat} {w W V : World} (h : RuS r w W) (hb : Below W.heap.size W V) : RuS r w V := ⟨h.1.below hb, h.2.trans (hb.mono h.2.size)⟩
set_option maxHeartbeats 4000000 in
set_option maxRecDepth 100000 in
theorem ruled_any (r : Nat) (w : World) (hS : SGr r w) : Calls Tryd.prog 9 #[] w (BoolP true w) := by
  have H0 := hide (show RuS r w w from ⟨hS, Below.refl _ _⟩)
  clear hS
  go_enter Tryd.func9, Tryd.ntmps9
  go_wp2_with fail
  refine (again_yes r _ _ _ H0.out.1 (by decide +kernel)).mono ?_; rintro e w1 ⟨rfl, hb⟩
  have H1 := hide (H0.out.step hb)
  clear hb
  go_wp2_with fail
  refine (again_yes r _ _ _ H1.out.1 (by decide +kernel)).mono ?_; rintro e w2 ⟨rfl, hb⟩
  have H2 := hide (H1.out.step hb)
  clear hb
  go_wp2_with fail
  refine (again_yes r _ _ _ H2.out.1 (by decide +kernel)).mono ?_; rintro e w3 ⟨rfl, hb⟩
  have H3 := hide (H2.out.step hb)
  clear hb
  go_wp2_with fail
  refine (again_yes r _ _ _ H3.out.1 (by decide +kernel)).mono ?_; rintro e w4 ⟨rfl, hb⟩
  have H4 := hide (H3.out.step hb)
  clear hb
  go_wp2_with fail
  refine (again_yes r _ _ _ H4.out.1 (by decide +kernel)).mono ?_; rintro e w5 ⟨rfl, hb⟩
  have H5 := hide (H4.out.step hb)
  clear hb
  go_wp2_with fail
  refine (again_yes r _ _ _ H5.out.1 (by decide +kernel)).mono ?_; rintro e w6 ⟨rfl, hb⟩
  have H6 := hide (H5.out.step hb)
  clear hb
  go_wp2_with fail
  refine (again_yes r _ _ _ H6.out.1 (by decide +kernel)).mono ?_; rintro e w7 ⟨rfl, hb⟩
  have H7 := hide (H6.out.step hb)
  clear hb
  go_wp2_with fail
  refine (no_yes r _ _ H7.out.1 (by decide +kernel)).mono ?_; rintro e w8 ⟨rfl, hb⟩
  have H8 := hide (H7.out.step hb)
  clear hb
  go_wp2_with fail
  refine (no_yes r _ _ H8.out.1 (by decide +kernel)).mono ?_; rintro e w9 ⟨rfl, hb⟩
  have H9 := hide (H8.out.step hb)
  clear hb
  go_wp2_with fail
  refine (no_yes r _ _ H9.out.1 (by decide +kernel)).mono ?_; rintro e w10 ⟨rfl, hb⟩
  have H10 := hide (H9.out.step hb)
  clear hb
  go_wp2_with fail
  refine (no_yes r _ _ H10.out.1 (by decide +kernel)).mono ?_; rintro e w11 ⟨rfl, hb⟩
  have H11 := hide (H10.out.step hb)
  clear hb
  go_wp2_with fail
  refine (no_yes r _ _ H11.out.1 (by decide +kernel)).mono ?_; rintro e w12 ⟨rfl, hb⟩
  have H12 := hide (H11.out.step hb)
  clear hb
  go_wp2_with fail
  refine (again_yes r _ _ _ H12.out.1 (by decide +kernel)).mono ?_; rintro e w13 ⟨rfl, hb⟩
  have H13 := hide (H12.out.step hb)
  clear hb
  go_wp2_with fail
  refine (again_yes r _ _ _ H13.out.1 (by decide +kernel)).mono ?_; rintro e w14 ⟨rfl, hb⟩
  have H14 := hide (H13.out.step hb)
  clear hb
  go_wp2
  go_ret
  exact ⟨rfl, H14.out.2⟩
end Go.Proofs.YtfamoikmfbpigaaDoor
