/- regs: atom. -/
import Derived.Test.YtfamoikmfbpigaaDoorEbra
import Derived.Deep.DeepCutAuto
import Derived.Deep.CutBlock
namespace Go.Proofs.YtfamoikmfbpigaaDoor
open Go.RowKit

/-- One: R is what reads a rule in brackets. -/
def atomE (R : ByteArray → Option (Nd × ByteArray)) (s : ByteArray) : Option (Nd × ByteArray) :=
  match tk s with
  | none => none
  | some (b, t) =>
    if b = 40 then (match R t with | none => none | some (n, t2) => if isB t2 41 = true then some (n, t2.extract 1 t2.size) else none)
    else if b = 91 then braE t
    else if b = 46 then some (.mk 1 (spanS (spanS noSet 0 10) 11 245) [], t)
    else if b = 92 then (match escE t with | none => none | some (c, t2) => some (.mk 1 (spanS noSet c 1) [], t2))
    else if b = 41 ∨ b = 93 ∨ b = 124 ∨ b = 42 ∨ b = 43 ∨ b = 63 then none
    else some (.mk 1 (spanS noSet b 1) [], t)
theorem four {S : List Nat} (h : S.length = 4) : ∃ a b c d, S = [a, b, c, d] := by
  match S, h with
  | [a, b, c, d], _ => exact ⟨a, b, c, d, rfl⟩
theorem ResN.cases {p : Nat} {w : World} {x : Option (Nd × ByteArray)} {e : Ending} {w' : World} (h : ResN p w x e w') : (x = none ∧ e = panE ∧ KeepR p w w') ∨
    ∃ (n : Nd) (t : ByteArray) (k : Int) (x0 x1 x2 x3 : Nat) (A : Option Addr) (m cap : Nat), x = some (n, t) ∧ e = .returned (.agg #[.int .i64 k, .int .u64 (x0 : Int), .int .u64 (x1 : Int), .int .u64 (x2 : Int), .int .u64 (x3 : Int), .slice A m cap]) ∧ NdAt w.heap.size w' n (ndL k [x0, x1, x2, x3] (.slice A m cap)) ∧ Rd w' p t ∧ KeepR p w w' := by
  unfold ResN at h
  cases x with
  | none => exact .inl ⟨rfl, h.1, h.2⟩
  | some y =>
    obtain ⟨⟨k, S, kids⟩, t⟩ := y
    obtain ⟨cs, e1, h1, h2, h3⟩ := h
    have h4 := h1
    unfold NdAt at h4
    obtain ⟨A, cap, rfl, hw, -⟩ := h4
    obtain ⟨a, b, c, d, rfl⟩ := four hw.1
    exact .inr ⟨_, t, k, a, b, c, d, A, kids.length, cap, rfl, e1, h1, h2, h3⟩
/-- What atom's two boxes hold. -/
def AtS (w W : World) (p z2 z3 : Nat) (t : ByteArray) (k : Int) (S : List Nat) (v : Value) : Prop :=
  Rd W p t ∧ Blk W z2 27 (ndL 0 noSet (.slice none 0 0)) ∧ Blk W z3 27 (ndL k S v) ∧ KeepR p w W
theorem AtS.step {w W V : World} {p z2 z3 : Nat} {t t' : ByteArray} {k : Int} {S : List Nat} {v : Value} (h : AtS w W p z2 z3 t k S v) (hr : Rd V p t') (hk : KeepR p W V) (h2 : z2 ≠ p) (h3 : z3 ≠ p) : AtS w V p z2 z3 t' k S v :=
  ⟨hr, hk.blk h.2.1 h2, hk.blk h.2.2.1 h3, h.2.2.2.trans hk⟩
theorem AtS.own {w W V : World} {p z2 z3 : Nat} {t : ByteArray} {k k' : Int} {S S' : List Nat} {v v' : Value} (h : AtS w W p z2 z3 t k S v) (hb : Blk V z3 27 (ndL k' S' v')) (hk : KeepR z3 W V) (h2 : z2 ≠ z3) (h3 : p ≠ z3) (hz : w.heap.size ≤ z3) : AtS w V p z2 z3 t k' S' v' :=
  ⟨h.1.keepZ hk h3, hk.blk h.2.1 h2, hb, h.2.2.2.own hk hz⟩
/-- What lies in blocks that the reader's call has made is kept by what writes the reader alone. -/
theorem NdAt.keepR {B p : Nat} {w W : World} {x : Nd} {cs : List Value} (h : NdAt B w x cs) (hp : p < B) (hk : KeepR p w W) : NdAt B W x cs := h.keepZ hp hk
theorem nd_putA {W : World} {z : Nat} {k0 : Int} {a0 b0 c0 d0 : Nat} {v0 : Value} (h : Blk W z 27 (ndL k0 [a0, b0, c0, d0] v0)) (k : Int) (a b c d : Nat) (v : Value) : Blk (ndSet W z k a b c d v) z 27 (ndL k [a, b, c, d] v) :=
  (((((h.set 0 _).set 1 _).set 2 _).set 3 _).set 4 _).set 5 _
theorem one_span (b : Nat) : b + 1 - b = 1 := by omega
set_option maxHeartbeats 4000000 in
set_option maxRecDepth 100000 in
theorem atom_lit (p : Nat) (s t : ByteArray) (b : Nat) (R : ByteArray → Option (Nd × ByteArray)) (w : World) (h : Rd w p s) (hm : s.size ≤ 100000) (ht : tk s = some (b, t)) (h40 : b ≠ 40) (h91 : b ≠ 91) (h46 : b ≠ 46) (h92 : b ≠ 92) (hno : ¬ (b = 41 ∨ b = 93 ∨ b = 124 ∨ b = 42 ∨ b = 43 ∨ b = 63)) :
    Calls Tryd.prog 60 #[.pointer (some ⟨p, 0, none⟩)] w (ResN p w (atomE R s)) := by
  have HX := hide (show atomE R s = some (.mk 1 (spanS noSet b 1) [], t) by unfold atomE; rw [ht]; dsimp only; rw [if_neg h40, if_neg h91, if_neg h46, if_neg h92, if_neg hno])
  have hbd := tk_bd ht
  have HT := hide (fun W (h : Rd W p s) => by have := take_any p s W h (by omega); rw [ht] at this; exact this)
  have q0 : ((b : Int) == 40) = false := by simp; omega
  have q1 : ((b : Int) == 91) = false := by simp; omega
  have q2 : ((b : Int) == 46) = false := by simp; omega
  have q3 : ((b : Int) == 92) = false := by simp; omega
  have q4 : ((b : Int) == 41) = false := by simp; omega
  have q5 : ((b : Int) == 93) = false := by simp; omega
  have q6 : ((b : Int) == 124) = false := by simp; omega
  have q7 : ((b : Int) == 42) = false := by simp; omega
  have q8 : ((b : Int) == 43) = false := by simp; omega
  have q9 : ((b : Int) == 63) = false := by simp; omega
  clear ht h40 h91 h46 h92 hno
  have hpw := h.lt
  have hb0 : Below w.heap.size w (w.alloc (.cells (ndL 0 noSet (.slice none 0 0)).toArray 27)) := (Below.refl _ _).alloc (Nat.le_refl _) _
  obtain ⟨W0, hW0⟩ : ∃ W, w.alloc (.cells (ndL 0 noSet (.slice none 0 0)).toArray 27) = W := ⟨_, rfl⟩
  have k0 : Blk W0 w.heap.size 27 (ndL 0 noSet (.slice none 0 0)) := by rw [← hW0]; exact Blk.new _ _ _
  have hz0 : W0.heap.size = w.heap.size + 1 := by rw [← hW0]; simp
  rw [hW0] at hb0
  have hb1 : Below W0.heap.size W0 (W0.alloc (.cells (ndL 1 noSet (.slice none 0 0)).toArray 27)) := (Below.refl _ _).alloc (Nat.le_refl _) _
  obtain ⟨W1, hW1⟩ : ∃ W, W0.alloc (.cells (ndL 1 noSet (.slice none 0 0)).toArray 27) = W := ⟨_, rfl⟩
  have k1 : Blk W1 (w.heap.size + 1) 27 (ndL 1 noSet (.slice none 0 0)) := by rw [← hW1, ← hz0]; exact Blk.new _ _ _
  rw [hW1] at hb1
  have HB1 := hide (show AtS w W1 p w.heap.size (w.heap.size + 1) s 1 noSet (.slice none 0 0) from ⟨(h.below hb0).below hb1, k0.below hb1, k1, (KeepR.of hb0).trans (KeepR.of hb1)⟩)
  clear h hb0 k0 hb1 k1
  go_enter Tryd.func60, Tryd.ntmps60
  go_wp2_with fail
  rw [show w.alloc (.cells #[.int .i64 0, .int .u64 0, .int .u64 0, .int .u64 0, .int .u64 0, .slice none 0 0] 27) = W0 from hW0]
  rw [show W0.alloc (.cells #[.int .i64 1, .int .u64 0, .int .u64 0, .int .u64 0, .int .u64 0, .slice none 0 0] 27) = W1 from hW1]
  clear hW0 hW1 hz0
  obtain ⟨z2, hz2⟩ : ∃ q, w.heap.size = q := ⟨_, rfl⟩
  obtain ⟨z3, hz3⟩ : ∃ q, z2 + 1 = q := ⟨_, rfl⟩
  rw [hz2, hz3]
  rw [hz2, hz3] at HB1
  have h2p : z2 ≠ p := by omega
  have h3p : z3 ≠ p := by omega
  have hp3 : p ≠ z3 := by omega
  have h23 : z2 ≠ z3 := by omega
  have h32 : z3 ≠ z2 := by omega
  have hzw : w.heap.size ≤ z3 := by omega
  have hzw2 : w.heap.size ≤ z2 := by omega
  clear hz3 hpw
  refine (HT.out _ HB1.out.1).mono ?_; rintro e w2 ⟨rfl, h1, h2⟩
  have HB2 := hide (HB1.out.step h1 h2 h2p h3p)
  clear h1 h2 HB1
  go_wp2_with fail
  refine (span_any z3 1 noSet (.slice none 0 0) b b _ HB2.out.2.2.1 noSet_w (by omega) (by omega)).mono ?_; rintro e w3 ⟨rfl, h3, h4⟩
  rw [one_span] at h3
  have hw := spanS_w noSet_w b 1
  have HW := hide hw
  obtain ⟨x0, x1, x2, x3, hS⟩ := four hw.1
  rw [hS] at h3 HX HW
  have HB3 := hide (HB2.out.own h3 h4 h23 hp3 hzw)
  clear h3 h4 HB2 hS hw
  have a0 := HB3.out.2.2.1.cell (i := 0) rfl
  have a1 := HB3.out.2.2.1.cell (i := 1) rfl
  have a2 := HB3.out.2.2.1.cell (i := 2) rfl
  have a3 := HB3.out.2.2.1.cell (i := 3) rfl
  have a4 := HB3.out.2.2.1.cell (i := 4) rfl
  have a5 := HB3.out.2.2.1.cell (i := 5) rfl
  have b0 := HB3.out.2.1.cell (i := 0) rfl
  have b1 := HB3.out.2.1.cell (i := 1) rfl
  have b2 := HB3.out.2.1.cell (i := 2) rfl
  have b3 := HB3.out.2.1.cell (i := 3) rfl
  have b4 := HB3.out.2.1.cell (i := 4) rfl
  have b5 := HB3.out.2.1.cell (i := 5) rfl
  have bf := fun i => HB3.out.2.1.frozen i
  have af := fun i => HB3.out.2.2.1.frozen i
  go_wp2
  refine bodyPost_ret (results_cell_row rfl _ _ z2 27 (ndL 1 [x0, x1, x2, x3] (.slice none 0 0)).toArray (0, 0) _ rfl (nd_put HB3.out.2.1 1 x0 x1 x2 x3 (.slice none 0 0)) Tryd.underlying27 rfl (by kernel_rfl)) rfl ?_
  rw [HX.out]
  have hk := nd_keep w3 z2 1 x0 x1 x2 x3 (.slice none 0 0)
  exact ⟨_, rfl, NdAt.leaf _ _ 1 HW.out, HB3.out.1.keepZ hk (fun e => h2p e.symm), HB3.out.2.2.2.own hk hzw2⟩
set_option maxHeartbeats 1000000 in
set_option maxRecDepth 100000 in
theorem atom_end (p : Nat) (s : ByteArray) (R : ByteArray → Option (Nd × ByteArray)) (w : World) (h : Rd w p s) (hm : s.size ≤ 100000) (ht : tk s = none) :
    Calls Tryd.prog 60 #[.pointer (some ⟨p, 0, none⟩)] w (ResN p w (atomE R s)) := by
  have HT := hide (fun W (h : Rd W p s) => by have := take_any p s W h (by omega); rw [ht] at this; exact this)
  have HX := hide (show atomE R s = none by unfold atomE; rw [ht])
  clear ht
  have hpw := h.lt
  have hb0 : Below w.heap.size w (w.alloc (.cells (ndL 0 noSet (.slice none 0 0)).toArray 27)) := (Below.refl _ _).alloc (Nat.le_refl _) _
  obtain ⟨W0, hW0⟩ : ∃ W, w.alloc (.cells (ndL 0 noSet (.slice none 0 0)).toArray 27) = W := ⟨_, rfl⟩
  have k0 : Blk W0 w.heap.size 27 (ndL 0 noSet (.slice none 0 0)) := by rw [← hW0]; exact Blk.new _ _ _
  have hz0 : W0.heap.size = w.heap.size + 1 := by rw [← hW0]; simp
  rw [hW0] at hb0
  have hb1 : Below W0.heap.size W0 (W0.alloc (.cells (ndL 1 noSet (.slice none 0 0)).toArray 27)) := (Below.refl _ _).alloc (Nat.le_refl _) _
  obtain ⟨W1, hW1⟩ : ∃ W, W0.alloc (.cells (ndL 1 noSet (.slice none 0 0)).toArray 27) = W := ⟨_, rfl⟩
  have k1 : Blk W1 (w.heap.size + 1) 27 (ndL 1 noSet (.slice none 0 0)) := by rw [← hW1, ← hz0]; exact Blk.new _ _ _
  rw [hW1] at hb1
  have HB1 := hide (show AtS w W1 p w.heap.size (w.heap.size + 1) s 1 noSet (.slice none 0 0) from ⟨(h.below hb0).below hb1, k0.below hb1, k1, (KeepR.of hb0).trans (KeepR.of hb1)⟩)
  clear h hb0 k0 hb1 k1
  go_enter Tryd.func60, Tryd.ntmps60
  go_wp2_with fail
  rw [show w.alloc (.cells #[.int .i64 0, .int .u64 0, .int .u64 0, .int .u64 0, .int .u64 0, .slice none 0 0] 27) = W0 from hW0]
  rw [show W0.alloc (.cells #[.int .i64 1, .int .u64 0, .int .u64 0, .int .u64 0, .int .u64 0, .slice none 0 0] 27) = W1 from hW1]
  clear hW0 hW1 hz0
  obtain ⟨z2, hz2⟩ : ∃ q, w.heap.size = q := ⟨_, rfl⟩
  obtain ⟨z3, hz3⟩ : ∃ q, z2 + 1 = q := ⟨_, rfl⟩
  rw [hz2, hz3]
  rw [hz2, hz3] at HB1
  have h2p : z2 ≠ p := by omega
  have h3p : z3 ≠ p := by omega
  have hp3 : p ≠ z3 := by omega
  have h23 : z2 ≠ z3 := by omega
  have h32 : z3 ≠ z2 := by omega
  have hzw : w.heap.size ≤ z3 := by omega
  have hzw2 : w.heap.size ≤ z2 := by omega
  clear hz3 hpw
  refine (HT.out _ HB1.out.1).mono ?_; rintro e w2 ⟨rfl, h1⟩
  go_wp2
  exact ⟨rfl, by rw [HX.out]; exact ⟨rfl, HB1.out.2.2.2.trans h1⟩⟩
set_option maxHeartbeats 4000000 in
set_option maxRecDepth 100000 in
theorem atom_bad (p : Nat) (s t : ByteArray) (R : ByteArray → Option (Nd × ByteArray)) (w : World) (h : Rd w p s) (hm : s.size ≤ 100000) (b : Nat) (ht : tk s = some (b, t)) (hno : b = 41 ∨ b = 93 ∨ b = 124 ∨ b = 42 ∨ b = 43 ∨ b = 63) :
    Calls Tryd.prog 60 #[.pointer (some ⟨p, 0, none⟩)] w (ResN p w (atomE R s)) := by
  have hbd := tk_bd ht
  have HT := hide (fun W (h : Rd W p s) => by have := take_any p s W h (by omega); rw [ht] at this; exact this)
  have HX := hide (show atomE R s = none by unfold atomE; rw [ht]; dsimp only; rw [if_neg (by omega), if_neg (by omega), if_neg (by omega), if_neg (by omega), if_pos hno])
  have q0 : ((b : Int) == 40) = false := by simp; omega
  have q1 : ((b : Int) == 91) = false := by simp; omega
  have q2 : ((b : Int) == 46) = false := by simp; omega
  have q3 : ((b : Int) == 92) = false := by simp; omega
  clear ht
  rcases hno with rfl | rfl | rfl | rfl | rfl | rfl
  all_goals (
    have hpw := h.lt
    have hb0 : Below w.heap.size w (w.alloc (.cells (ndL 0 noSet (.slice none 0 0)).toArray 27)) := (Below.refl _ _).alloc (Nat.le_refl _) _
    obtain ⟨W0, hW0⟩ : ∃ W, w.alloc (.cells (ndL 0 noSet (.slice none 0 0)).toArray 27) = W := ⟨_, rfl⟩
    have k0 : Blk W0 w.heap.size 27 (ndL 0 noSet (.slice none 0 0)) := by rw [← hW0]; exact Blk.new _ _ _
    have hz0 : W0.heap.size = w.heap.size + 1 := by rw [← hW0]; simp
    rw [hW0] at hb0
    have hb1 : Below W0.heap.size W0 (W0.alloc (.cells (ndL 1 noSet (.slice none 0 0)).toArray 27)) := (Below.refl _ _).alloc (Nat.le_refl _) _
    obtain ⟨W1, hW1⟩ : ∃ W, W0.alloc (.cells (ndL 1 noSet (.slice none 0 0)).toArray 27) = W := ⟨_, rfl⟩
    have k1 : Blk W1 (w.heap.size + 1) 27 (ndL 1 noSet (.slice none 0 0)) := by rw [← hW1, ← hz0]; exact Blk.new _ _ _
    rw [hW1] at hb1
    have HB1 := hide (show AtS w W1 p w.heap.size (w.heap.size + 1) s 1 noSet (.slice none 0 0) from ⟨(h.below hb0).below hb1, k0.below hb1, k1, (KeepR.of hb0).trans (KeepR.of hb1)⟩)
    clear h hb0 k0 hb1 k1
    go_enter Tryd.func60, Tryd.ntmps60
    go_wp2_with fail
    rw [show w.alloc (.cells #[.int .i64 0, .int .u64 0, .int .u64 0, .int .u64 0, .int .u64 0, .slice none 0 0] 27) = W0 from hW0]
    rw [show W0.alloc (.cells #[.int .i64 1, .int .u64 0, .int .u64 0, .int .u64 0, .int .u64 0, .slice none 0 0] 27) = W1 from hW1]
    clear hW0 hW1 hz0
    obtain ⟨z2, hz2⟩ : ∃ q, w.heap.size = q := ⟨_, rfl⟩
    obtain ⟨z3, hz3⟩ : ∃ q, z2 + 1 = q := ⟨_, rfl⟩
    rw [hz2, hz3]
    rw [hz2, hz3] at HB1
    have h2p : z2 ≠ p := by omega
    have h3p : z3 ≠ p := by omega
    have hp3 : p ≠ z3 := by omega
    have h23 : z2 ≠ z3 := by omega
    have h32 : z3 ≠ z2 := by omega
    have hzw : w.heap.size ≤ z3 := by omega
    have hzw2 : w.heap.size ≤ z2 := by omega
    clear hz3 hpw
    refine (HT.out _ HB1.out.1).mono ?_; rintro e w2 ⟨rfl, h1, h2⟩
    have HB2 := hide (HB1.out.step h1 h2 h2p h3p)
    clear h1 h2 HB1
    go_wp2
    exact ⟨rfl, by rw [HX.out]; exact ⟨rfl, HB2.out.2.2.2⟩⟩)
set_option maxHeartbeats 4000000 in
set_option maxRecDepth 100000 in
theorem atom_dot (p : Nat) (s t : ByteArray) (R : ByteArray → Option (Nd × ByteArray)) (w : World) (h : Rd w p s) (hm : s.size ≤ 100000) (ht : tk s = some (46, t)) :
    Calls Tryd.prog 60 #[.pointer (some ⟨p, 0, none⟩)] w (ResN p w (atomE R s)) := by
  have hbd := tk_bd ht
  have HT := hide (fun W (h : Rd W p s) => by have := take_any p s W h (by omega); rw [ht] at this; exact this)
  have HX := hide (show atomE R s = some (.mk 1 (spanS (spanS noSet 0 10) 11 245) [], t) by unfold atomE; rw [ht]; rfl)
  clear ht
  have hpw := h.lt
  have hb0 : Below w.heap.size w (w.alloc (.cells (ndL 0 noSet (.slice none 0 0)).toArray 27)) := (Below.refl _ _).alloc (Nat.le_refl _) _
  obtain ⟨W0, hW0⟩ : ∃ W, w.alloc (.cells (ndL 0 noSet (.slice none 0 0)).toArray 27) = W := ⟨_, rfl⟩
  have k0 : Blk W0 w.heap.size 27 (ndL 0 noSet (.slice none 0 0)) := by rw [← hW0]; exact Blk.new _ _ _
  have hz0 : W0.heap.size = w.heap.size + 1 := by rw [← hW0]; simp
  rw [hW0] at hb0
  have hb1 : Below W0.heap.size W0 (W0.alloc (.cells (ndL 1 noSet (.slice none 0 0)).toArray 27)) := (Below.refl _ _).alloc (Nat.le_refl _) _
  obtain ⟨W1, hW1⟩ : ∃ W, W0.alloc (.cells (ndL 1 noSet (.slice none 0 0)).toArray 27) = W := ⟨_, rfl⟩
  have k1 : Blk W1 (w.heap.size + 1) 27 (ndL 1 noSet (.slice none 0 0)) := by rw [← hW1, ← hz0]; exact Blk.new _ _ _
  rw [hW1] at hb1
  have HB1 := hide (show AtS w W1 p w.heap.size (w.heap.size + 1) s 1 noSet (.slice none 0 0) from ⟨(h.below hb0).below hb1, k0.below hb1, k1, (KeepR.of hb0).trans (KeepR.of hb1)⟩)
  clear h hb0 k0 hb1 k1
  go_enter Tryd.func60, Tryd.ntmps60
  go_wp2_with fail
  rw [show w.alloc (.cells #[.int .i64 0, .int .u64 0, .int .u64 0, .int .u64 0, .int .u64 0, .slice none 0 0] 27) = W0 from hW0]
  rw [show W0.alloc (.cells #[.int .i64 1, .int .u64 0, .int .u64 0, .int .u64 0, .int .u64 0, .slice none 0 0] 27) = W1 from hW1]
  clear hW0 hW1 hz0
  obtain ⟨z2, hz2⟩ : ∃ q, w.heap.size = q := ⟨_, rfl⟩
  obtain ⟨z3, hz3⟩ : ∃ q, z2 + 1 = q := ⟨_, rfl⟩
  rw [hz2, hz3]
  rw [hz2, hz3] at HB1
  have h2p : z2 ≠ p := by omega
  have h3p : z3 ≠ p := by omega
  have hp3 : p ≠ z3 := by omega
  have h23 : z2 ≠ z3 := by omega
  have h32 : z3 ≠ z2 := by omega
  have hzw : w.heap.size ≤ z3 := by omega
  have hzw2 : w.heap.size ≤ z2 := by omega
  clear hz3 hpw
  refine (HT.out _ HB1.out.1).mono ?_; rintro e w2 ⟨rfl, h1, h2⟩
  have HB2 := hide (HB1.out.step h1 h2 h2p h3p)
  clear h1 h2 HB1
  go_wp2_with fail
  refine (span_any z3 1 noSet (.slice none 0 0) 0 9 _ HB2.out.2.2.1 noSet_w (by omega) (by omega)).mono ?_; rintro e w3 ⟨rfl, h3, h4⟩
  have hw0 := spanS_w noSet_w 0 10
  have HB3 := hide (HB2.out.own h3 h4 h23 hp3 hzw)
  clear h3 h4 HB2
  go_wp2_with fail
  refine (span_any z3 1 _ (.slice none 0 0) 11 255 _ HB3.out.2.2.1 hw0 (by omega) (by omega)).mono ?_; rintro e w4 ⟨rfl, h3, h4⟩
  have hw : W64 (spanS (spanS noSet 0 10) 11 245) := spanS_w hw0 11 245
  have HW := hide hw
  have h3' : Blk w4 z3 27 (ndL 1 (spanS (spanS noSet 0 10) 11 245) (.slice none 0 0)) := h3
  obtain ⟨x0, x1, x2, x3, hS⟩ := four hw.1
  rw [hS] at h3' HX HW
  have HB4 := hide (HB3.out.own h3' h4 h23 hp3 hzw)
  clear h3 h3' h4 HB3 hS hw hw0
  have a0 := HB4.out.2.2.1.cell (i := 0) rfl
  have a1 := HB4.out.2.2.1.cell (i := 1) rfl
  have a2 := HB4.out.2.2.1.cell (i := 2) rfl
  have a3 := HB4.out.2.2.1.cell (i := 3) rfl
  have a4 := HB4.out.2.2.1.cell (i := 4) rfl
  have a5 := HB4.out.2.2.1.cell (i := 5) rfl
  have b0 := HB4.out.2.1.cell (i := 0) rfl
  have b1 := HB4.out.2.1.cell (i := 1) rfl
  have b2 := HB4.out.2.1.cell (i := 2) rfl
  have b3 := HB4.out.2.1.cell (i := 3) rfl
  have b4 := HB4.out.2.1.cell (i := 4) rfl
  have b5 := HB4.out.2.1.cell (i := 5) rfl
  have bf := fun i => HB4.out.2.1.frozen i
  have af := fun i => HB4.out.2.2.1.frozen i
  go_wp2
  refine bodyPost_ret (results_cell_row rfl _ _ z2 27 (ndL 1 [x0, x1, x2, x3] (.slice none 0 0)).toArray (0, 0) _ rfl (nd_put HB4.out.2.1 1 x0 x1 x2 x3 (.slice none 0 0)) Tryd.underlying27 rfl (by kernel_rfl)) rfl ?_
  rw [HX.out]
  have hk := nd_keep w4 z2 1 x0 x1 x2 x3 (.slice none 0 0)
  exact ⟨_, rfl, NdAt.leaf _ _ 1 HW.out, HB4.out.1.keepZ hk (fun e => h2p e.symm), HB4.out.2.2.2.own hk hzw2⟩
set_option maxHeartbeats 4000000 in
set_option maxRecDepth 100000 in
theorem atom_esc (p : Nat) (s t : ByteArray) (R : ByteArray → Option (Nd × ByteArray)) (w : World) (h : Rd w p s) (hm : s.size ≤ 100000) (ht : tk s = some (92, t)) :
    Calls Tryd.prog 60 #[.pointer (some ⟨p, 0, none⟩)] w (ResN p w (atomE R s)) := by
  have hbd := tk_bd ht
  have HT := hide (fun W (h : Rd W p s) => by have := take_any p s W h (by omega); rw [ht] at this; exact this)
  have HX := hide (show atomE R s = (match escE t with | none => none | some (c, t2) => some (.mk 1 (spanS noSet c 1) [], t2)) by unfold atomE; rw [ht]; rfl)
  clear ht
  have hpw := h.lt
  have hb0 : Below w.heap.size w (w.alloc (.cells (ndL 0 noSet (.slice none 0 0)).toArray 27)) := (Below.refl _ _).alloc (Nat.le_refl _) _
  obtain ⟨W0, hW0⟩ : ∃ W, w.alloc (.cells (ndL 0 noSet (.slice none 0 0)).toArray 27) = W := ⟨_, rfl⟩
  have k0 : Blk W0 w.heap.size 27 (ndL 0 noSet (.slice none 0 0)) := by rw [← hW0]; exact Blk.new _ _ _
  have hz0 : W0.heap.size = w.heap.size + 1 := by rw [← hW0]; simp
  rw [hW0] at hb0
  have hb1 : Below W0.heap.size W0 (W0.alloc (.cells (ndL 1 noSet (.slice none 0 0)).toArray 27)) := (Below.refl _ _).alloc (Nat.le_refl _) _
  obtain ⟨W1, hW1⟩ : ∃ W, W0.alloc (.cells (ndL 1 noSet (.slice none 0 0)).toArray 27) = W := ⟨_, rfl⟩
  have k1 : Blk W1 (w.heap.size + 1) 27 (ndL 1 noSet (.slice none 0 0)) := by rw [← hW1, ← hz0]; exact Blk.new _ _ _
  rw [hW1] at hb1
  have HB1 := hide (show AtS w W1 p w.heap.size (w.heap.size + 1) s 1 noSet (.slice none 0 0) from ⟨(h.below hb0).below hb1, k0.below hb1, k1, (KeepR.of hb0).trans (KeepR.of hb1)⟩)
  clear h hb0 k0 hb1 k1
  go_enter Tryd.func60, Tryd.ntmps60
  go_wp2_with fail
  rw [show w.alloc (.cells #[.int .i64 0, .int .u64 0, .int .u64 0, .int .u64 0, .int .u64 0, .slice none 0 0] 27) = W0 from hW0]
  rw [show W0.alloc (.cells #[.int .i64 1, .int .u64 0, .int .u64 0, .int .u64 0, .int .u64 0, .slice none 0 0] 27) = W1 from hW1]
  clear hW0 hW1 hz0
  obtain ⟨z2, hz2⟩ : ∃ q, w.heap.size = q := ⟨_, rfl⟩
  obtain ⟨z3, hz3⟩ : ∃ q, z2 + 1 = q := ⟨_, rfl⟩
  rw [hz2, hz3]
  rw [hz2, hz3] at HB1
  have h2p : z2 ≠ p := by omega
  have h3p : z3 ≠ p := by omega
  have hp3 : p ≠ z3 := by omega
  have h23 : z2 ≠ z3 := by omega
  have h32 : z3 ≠ z2 := by omega
  have hzw : w.heap.size ≤ z3 := by omega
  have hzw2 : w.heap.size ≤ z2 := by omega
  clear hz3 hpw
  refine (HT.out _ HB1.out.1).mono ?_; rintro e w2 ⟨rfl, h1, h2⟩
  have HB2 := hide (HB1.out.step h1 h2 h2p h3p)
  clear h1 h2 HB1
  go_wp2_with fail
  refine (esc_any p t _ HB2.out.1 (by omega)).mono ?_; rintro e w3 hr
  rcases hr.cases with ⟨hx, rfl, h3⟩ | ⟨c, t2, hx, rfl, h3, h4⟩
  · rw [hx] at HX
    clear hr hx
    go_wp2
    exact ⟨rfl, by rw [HX.out]; exact ⟨rfl, HB2.out.2.2.2.trans h3⟩⟩
  · have hcb := esc_bd hx
    rw [hx] at HX
    dsimp only at HX
    have HB3 := hide (HB2.out.step h3 h4 h2p h3p)
    clear hr hx h3 h4 HB2
    go_wp2_with fail
    refine (span_any z3 1 noSet (.slice none 0 0) c c _ HB3.out.2.2.1 noSet_w (by omega) (by omega)).mono ?_; rintro e w4 ⟨rfl, h3, h4⟩
    rw [one_span] at h3
    have hw := spanS_w noSet_w c 1
    have HW := hide hw
    obtain ⟨x0, x1, x2, x3, hS⟩ := four hw.1
    rw [hS] at h3 HX HW
    have HB4 := hide (HB3.out.own h3 h4 h23 hp3 hzw)
    clear h3 h4 HB3 hS hw
    have a0 := HB4.out.2.2.1.cell (i := 0) rfl
    have a1 := HB4.out.2.2.1.cell (i := 1) rfl
    have a2 := HB4.out.2.2.1.cell (i := 2) rfl
    have a3 := HB4.out.2.2.1.cell (i := 3) rfl
    have a4 := HB4.out.2.2.1.cell (i := 4) rfl
    have a5 := HB4.out.2.2.1.cell (i := 5) rfl
    have b0 := HB4.out.2.1.cell (i := 0) rfl
    have b1 := HB4.out.2.1.cell (i := 1) rfl
    have b2 := HB4.out.2.1.cell (i := 2) rfl
    have b3 := HB4.out.2.1.cell (i := 3) rfl
    have b4 := HB4.out.2.1.cell (i := 4) rfl
    have b5 := HB4.out.2.1.cell (i := 5) rfl
    have bf := fun i => HB4.out.2.1.frozen i
    have af := fun i => HB4.out.2.2.1.frozen i
    go_wp2
    refine bodyPost_ret (results_cell_row rfl _ _ z2 27 (ndL 1 [x0, x1, x2, x3] (.slice none 0 0)).toArray (0, 0) _ rfl (nd_put HB4.out.2.1 1 x0 x1 x2 x3 (.slice none 0 0)) Tryd.underlying27 rfl (by kernel_rfl)) rfl ?_
    rw [HX.out]
    have hk := nd_keep w4 z2 1 x0 x1 x2 x3 (.slice none 0 0)
    exact ⟨_, rfl, NdAt.leaf _ _ 1 HW.out, HB4.out.1.keepZ hk (fun e => h2p e.symm), HB4.out.2.2.2.own hk hzw2⟩
set_option maxHeartbeats 4000000 in
set_option maxRecDepth 100000 in
theorem atom_bra (p : Nat) (s t : ByteArray) (R : ByteArray → Option (Nd × ByteArray)) (w : World) (h : Rd w p s) (hm : s.size ≤ 100000) (ht : tk s = some (91, t)) :
    Calls Tryd.prog 60 #[.pointer (some ⟨p, 0, none⟩)] w (ResN p w (atomE R s)) := by
  have hbd := tk_bd ht
  have HT := hide (fun W (h : Rd W p s) => by have := take_any p s W h (by omega); rw [ht] at this; exact this)
  have HX := hide (show atomE R s = braE t by unfold atomE; rw [ht]; rfl)
  clear ht
  have hpw := h.lt
  have hb0 : Below w.heap.size w (w.alloc (.cells (ndL 0 noSet (.slice none 0 0)).toArray 27)) := (Below.refl _ _).alloc (Nat.le_refl _) _
  obtain ⟨W0, hW0⟩ : ∃ W, w.alloc (.cells (ndL 0 noSet (.slice none 0 0)).toArray 27) = W := ⟨_, rfl⟩
  have k0 : Blk W0 w.heap.size 27 (ndL 0 noSet (.slice none 0 0)) := by rw [← hW0]; exact Blk.new _ _ _
  have hz0 : W0.heap.size = w.heap.size + 1 := by rw [← hW0]; simp
  rw [hW0] at hb0
  have hb1 : Below W0.heap.size W0 (W0.alloc (.cells (ndL 1 noSet (.slice none 0 0)).toArray 27)) := (Below.refl _ _).alloc (Nat.le_refl _) _
  obtain ⟨W1, hW1⟩ : ∃ W, W0.alloc (.cells (ndL 1 noSet (.slice none 0 0)).toArray 27) = W := ⟨_, rfl⟩
  have k1 : Blk W1 (w.heap.size + 1) 27 (ndL 1 noSet (.slice none 0 0)) := by rw [← hW1, ← hz0]; exact Blk.new _ _ _
  rw [hW1] at hb1
  have HB1 := hide (show AtS w W1 p w.heap.size (w.heap.size + 1) s 1 noSet (.slice none 0 0) from ⟨(h.below hb0).below hb1, k0.below hb1, k1, (KeepR.of hb0).trans (KeepR.of hb1)⟩)
  clear h hb0 k0 hb1 k1
  go_enter Tryd.func60, Tryd.ntmps60
  go_wp2_with fail
  rw [show w.alloc (.cells #[.int .i64 0, .int .u64 0, .int .u64 0, .int .u64 0, .int .u64 0, .slice none 0 0] 27) = W0 from hW0]
  rw [show W0.alloc (.cells #[.int .i64 1, .int .u64 0, .int .u64 0, .int .u64 0, .int .u64 0, .slice none 0 0] 27) = W1 from hW1]
  clear hW0 hW1 hz0
  obtain ⟨z2, hz2⟩ : ∃ q, w.heap.size = q := ⟨_, rfl⟩
  obtain ⟨z3, hz3⟩ : ∃ q, z2 + 1 = q := ⟨_, rfl⟩
  rw [hz2, hz3]
  rw [hz2, hz3] at HB1
  have h2p : z2 ≠ p := by omega
  have h3p : z3 ≠ p := by omega
  have hp3 : p ≠ z3 := by omega
  have h23 : z2 ≠ z3 := by omega
  have h32 : z3 ≠ z2 := by omega
  have hzw : w.heap.size ≤ z3 := by omega
  have hzw2 : w.heap.size ≤ z2 := by omega
  clear hz3 hpw
  refine (HT.out _ HB1.out.1).mono ?_; rintro e w2 ⟨rfl, h1, h2⟩
  have HB2 := hide (HB1.out.step h1 h2 h2p h3p)
  clear h1 h2 HB1
  go_wp2_with fail
  refine (bra_any p t _ HB2.out.1 (by omega)).mono ?_; rintro e w3 hr
  rcases hr.cases with ⟨hx, rfl, h3⟩ | ⟨n, t2, k, x0, x1, x2, x3, A, m, cap, hx, rfl, hn, h3, h4⟩
  · rw [hx] at HX
    clear hr hx
    go_wp2
    exact ⟨rfl, by rw [HX.out]; exact ⟨rfl, HB2.out.2.2.2.trans h3⟩⟩
  · rw [hx] at HX
    have HB3 := hide (HB2.out.step h3 h4 h2p h3p)
    have HN := hide hn
    have hzl2 := HB2.out.2.1.lt
    have hzl3 := HB2.out.2.2.1.lt
    have hw2l := HB2.out.2.2.2.size
    clear hr hx h3 h4 HB2 hn
    have a0 := HB3.out.2.2.1.cell (i := 0) rfl
    have a1 := HB3.out.2.2.1.cell (i := 1) rfl
    have a2 := HB3.out.2.2.1.cell (i := 2) rfl
    have a3 := HB3.out.2.2.1.cell (i := 3) rfl
    have a4 := HB3.out.2.2.1.cell (i := 4) rfl
    have a5 := HB3.out.2.2.1.cell (i := 5) rfl
    have b0 := HB3.out.2.1.cell (i := 0) rfl
    have b1 := HB3.out.2.1.cell (i := 1) rfl
    have b2 := HB3.out.2.1.cell (i := 2) rfl
    have b3 := HB3.out.2.1.cell (i := 3) rfl
    have b4 := HB3.out.2.1.cell (i := 4) rfl
    have b5 := HB3.out.2.1.cell (i := 5) rfl
    have bf := fun i => HB3.out.2.1.frozen i
    have af := fun i => HB3.out.2.2.1.frozen i
    go_upto_region 23 with (fail)
    have hk3 := nd_keep w3 z3 k x0 x1 x2 x3 (.slice A m cap)
    have HB4 := hide (HB3.out.own (nd_putA HB3.out.2.2.1 k x0 x1 x2 x3 (.slice A m cap)) hk3 h23 hp3 hzw)
    have HN4 := hide (HN.out.keepZ hzl3 hk3)
    obtain ⟨w4, hw4⟩ : ∃ X, ndSet w3 z3 k x0 x1 x2 x3 (.slice A m cap) = X := ⟨_, rfl⟩
    rw [hw4] at HB4 HN4
    unfold ndSet at hw4
    rw [hw4]
    clear hw4 hk3 a0 a1 a2 a3 a4 a5 b0 b1 b2 b3 b4 b5 bf af HB3 HN
    have a0 := HB4.out.2.2.1.cell (i := 0) rfl
    have a1 := HB4.out.2.2.1.cell (i := 1) rfl
    have a2 := HB4.out.2.2.1.cell (i := 2) rfl
    have a3 := HB4.out.2.2.1.cell (i := 3) rfl
    have a4 := HB4.out.2.2.1.cell (i := 4) rfl
    have a5 := HB4.out.2.2.1.cell (i := 5) rfl
    have b0 := HB4.out.2.1.cell (i := 0) rfl
    have b1 := HB4.out.2.1.cell (i := 1) rfl
    have b2 := HB4.out.2.1.cell (i := 2) rfl
    have b3 := HB4.out.2.1.cell (i := 3) rfl
    have b4 := HB4.out.2.1.cell (i := 4) rfl
    have b5 := HB4.out.2.1.cell (i := 5) rfl
    have bf := fun i => HB4.out.2.1.frozen i
    have af := fun i => HB4.out.2.2.1.frozen i
    go_wp2
    refine bodyPost_ret (results_cell_row rfl _ _ z2 27 (ndL k [x0, x1, x2, x3] (.slice A m cap)).toArray (0, 0) _ rfl (nd_put HB4.out.2.1 k x0 x1 x2 x3 (.slice A m cap)) Tryd.underlying27 rfl (by kernel_rfl)) rfl ?_
    rw [HX.out]
    have hk := nd_keep w4 z2 k x0 x1 x2 x3 (.slice A m cap)
    exact ⟨_, rfl, (HN4.out.keepZ hzl2 hk).low hw2l, HB4.out.1.keepZ hk (fun e => h2p e.symm), HB4.out.2.2.2.own hk hzw2⟩
set_option maxHeartbeats 4000000 in
set_option maxRecDepth 100000 in
theorem atom_par (p : Nat) (s t : ByteArray) (R : ByteArray → Option (Nd × ByteArray)) (w : World) (h : Rd w p s) (hm : s.size ≤ 100000) (ht : tk s = some (40, t)) (hR : ∀ u W, u.size < s.size → Rd W p u → KeepR p w W → Calls Tryd.prog 27 #[.pointer (some ⟨p, 0, none⟩)] W (ResN p W (R u))) (hRb : ∀ u n v, R u = some (n, v) → v.size ≤ u.size) :
    Calls Tryd.prog 60 #[.pointer (some ⟨p, 0, none⟩)] w (ResN p w (atomE R s)) := by
  have hbd := tk_bd ht
  have HT := hide (fun W (h : Rd W p s) => by have := take_any p s W h (by omega); rw [ht] at this; exact this)
  have HX := hide (show atomE R s = (match R t with | none => none | some (n, t2) => if isB t2 41 = true then some (n, t2.extract 1 t2.size) else none) by unfold atomE; rw [ht]; rfl)
  have HRR := hide (fun W h hk => hR t W (by omega) h hk)
  have HRB := hide hRb
  clear ht hR hRb
  have hpw := h.lt
  have hb0 : Below w.heap.size w (w.alloc (.cells (ndL 0 noSet (.slice none 0 0)).toArray 27)) := (Below.refl _ _).alloc (Nat.le_refl _) _
  obtain ⟨W0, hW0⟩ : ∃ W, w.alloc (.cells (ndL 0 noSet (.slice none 0 0)).toArray 27) = W := ⟨_, rfl⟩
  have k0 : Blk W0 w.heap.size 27 (ndL 0 noSet (.slice none 0 0)) := by rw [← hW0]; exact Blk.new _ _ _
  have hz0 : W0.heap.size = w.heap.size + 1 := by rw [← hW0]; simp
  rw [hW0] at hb0
  have hb1 : Below W0.heap.size W0 (W0.alloc (.cells (ndL 1 noSet (.slice none 0 0)).toArray 27)) := (Below.refl _ _).alloc (Nat.le_refl _) _
  obtain ⟨W1, hW1⟩ : ∃ W, W0.alloc (.cells (ndL 1 noSet (.slice none 0 0)).toArray 27) = W := ⟨_, rfl⟩
  have k1 : Blk W1 (w.heap.size + 1) 27 (ndL 1 noSet (.slice none 0 0)) := by rw [← hW1, ← hz0]; exact Blk.new _ _ _
  rw [hW1] at hb1
  have HB1 := hide (show AtS w W1 p w.heap.size (w.heap.size + 1) s 1 noSet (.slice none 0 0) from ⟨(h.below hb0).below hb1, k0.below hb1, k1, (KeepR.of hb0).trans (KeepR.of hb1)⟩)
  clear h hb0 k0 hb1 k1
  go_enter Tryd.func60, Tryd.ntmps60
  go_wp2_with fail
  rw [show w.alloc (.cells #[.int .i64 0, .int .u64 0, .int .u64 0, .int .u64 0, .int .u64 0, .slice none 0 0] 27) = W0 from hW0]
  rw [show W0.alloc (.cells #[.int .i64 1, .int .u64 0, .int .u64 0, .int .u64 0, .int .u64 0, .slice none 0 0] 27) = W1 from hW1]
  clear hW0 hW1 hz0
  obtain ⟨z2, hz2⟩ : ∃ q, w.heap.size = q := ⟨_, rfl⟩
  obtain ⟨z3, hz3⟩ : ∃ q, z2 + 1 = q := ⟨_, rfl⟩
  rw [hz2, hz3]
  rw [hz2, hz3] at HB1
  have h2p : z2 ≠ p := by omega
  have h3p : z3 ≠ p := by omega
  have hp3 : p ≠ z3 := by omega
  have h23 : z2 ≠ z3 := by omega
  have h32 : z3 ≠ z2 := by omega
  have hzw : w.heap.size ≤ z3 := by omega
  have hzw2 : w.heap.size ≤ z2 := by omega
  clear hz3 hpw
  refine (HT.out _ HB1.out.1).mono ?_; rintro e w2 ⟨rfl, h1, h2⟩
  have HB2 := hide (HB1.out.step h1 h2 h2p h3p)
  clear h1 h2 HB1
  go_wp2_with fail
  refine (HRR.out _ HB2.out.1 HB2.out.2.2.2).mono ?_; rintro e w3 hr
  rcases hr.cases with ⟨hx, rfl, h3⟩ | ⟨n, t2, k, x0, x1, x2, x3, A, m, cap, hx, rfl, hn, h3, h4⟩
  · rw [hx] at HX
    clear hr hx
    go_wp2
    exact ⟨rfl, by rw [HX.out]; exact ⟨rfl, HB2.out.2.2.2.trans h3⟩⟩
  · have htb := HRB.out _ _ _ hx
    rw [hx] at HX
    dsimp only at HX
    have HB3 := hide (HB2.out.step h3 h4 h2p h3p)
    have HN := hide hn
    have hzl2 := HB2.out.2.1.lt
    have hzl3 := HB2.out.2.2.1.lt
    have hpl2 := HB2.out.1.lt
    have hw2l := HB2.out.2.2.2.size
    clear hr hx h3 h4 HB2 hn
    have a0 := HB3.out.2.2.1.cell (i := 0) rfl
    have a1 := HB3.out.2.2.1.cell (i := 1) rfl
    have a2 := HB3.out.2.2.1.cell (i := 2) rfl
    have a3 := HB3.out.2.2.1.cell (i := 3) rfl
    have a4 := HB3.out.2.2.1.cell (i := 4) rfl
    have a5 := HB3.out.2.2.1.cell (i := 5) rfl
    have b0 := HB3.out.2.1.cell (i := 0) rfl
    have b1 := HB3.out.2.1.cell (i := 1) rfl
    have b2 := HB3.out.2.1.cell (i := 2) rfl
    have b3 := HB3.out.2.1.cell (i := 3) rfl
    have b4 := HB3.out.2.1.cell (i := 4) rfl
    have b5 := HB3.out.2.1.cell (i := 5) rfl
    have bf := fun i => HB3.out.2.1.frozen i
    have af := fun i => HB3.out.2.2.1.frozen i
    go_wp2_with fail
    have hk3 := nd_keep w3 z3 k x0 x1 x2 x3 (.slice A m cap)
    have HB4 := hide (HB3.out.own (nd_putA HB3.out.2.2.1 k x0 x1 x2 x3 (.slice A m cap)) hk3 h23 hp3 hzw)
    have HN4 := hide (HN.out.keepZ hzl3 hk3)
    obtain ⟨w4, hw4⟩ : ∃ X, ndSet w3 z3 k x0 x1 x2 x3 (.slice A m cap) = X := ⟨_, rfl⟩
    rw [hw4] at HB4 HN4
    unfold ndSet at hw4
    rw [hw4]
    clear hw4 hk3 a0 a1 a2 a3 a4 a5 b0 b1 b2 b3 b4 b5 bf af HB3 HN
    cases hb41 : isB t2 41 with
    | false =>
      rw [if_neg (by rw [hb41]; decide)] at HX
      refine (need_no p t2 41 _ HB4.out.1 (by omega) hb41).mono ?_; rintro e w5 ⟨rfl, h5⟩
      clear hb41
      go_wp2
      exact ⟨rfl, by rw [HX.out]; exact ⟨rfl, HB4.out.2.2.2.trans h5⟩⟩
    | true =>
      rw [if_pos hb41] at HX
      refine (need_yes p t2 41 _ HB4.out.1 (by omega) hb41).mono ?_; rintro e w5 ⟨rfl, h5, h6⟩
      have HB5 := hide (HB4.out.step h5 h6 h2p h3p)
      have HN5 := hide (HN4.out.keepR hpl2 h6)
      clear hb41 h5 h6 HB4 HN4
      have a0 := HB5.out.2.2.1.cell (i := 0) rfl
      have a1 := HB5.out.2.2.1.cell (i := 1) rfl
      have a2 := HB5.out.2.2.1.cell (i := 2) rfl
      have a3 := HB5.out.2.2.1.cell (i := 3) rfl
      have a4 := HB5.out.2.2.1.cell (i := 4) rfl
      have a5 := HB5.out.2.2.1.cell (i := 5) rfl
      have b0 := HB5.out.2.1.cell (i := 0) rfl
      have b1 := HB5.out.2.1.cell (i := 1) rfl
      have b2 := HB5.out.2.1.cell (i := 2) rfl
      have b3 := HB5.out.2.1.cell (i := 3) rfl
      have b4 := HB5.out.2.1.cell (i := 4) rfl
      have b5 := HB5.out.2.1.cell (i := 5) rfl
      have bf := fun i => HB5.out.2.1.frozen i
      have af := fun i => HB5.out.2.2.1.frozen i
      go_wp2
      refine bodyPost_ret (results_cell_row rfl _ _ z2 27 (ndL k [x0, x1, x2, x3] (.slice A m cap)).toArray (0, 0) _ rfl (nd_put HB5.out.2.1 k x0 x1 x2 x3 (.slice A m cap)) Tryd.underlying27 rfl (by kernel_rfl)) rfl ?_
      rw [HX.out]
      have hk := nd_keep w5 z2 k x0 x1 x2 x3 (.slice A m cap)
      exact ⟨_, rfl, (HN5.out.keepZ hzl2 hk).low hw2l, HB5.out.1.keepZ hk (fun e => h2p e.symm), HB5.out.2.2.2.own hk hzw2⟩
theorem tk_none {s : ByteArray} (h : tk s = none) : s.size = 0 := by
  unfold tk at h
  split at h
  · cases h
  · omega
theorem atom_any (p : Nat) (s : ByteArray) (R : ByteArray → Option (Nd × ByteArray)) (w : World) (h : Rd w p s) (hm : s.size ≤ 100000)
    (hR : ∀ u W, u.size < s.size → Rd W p u → KeepR p w W → Calls Tryd.prog 27 #[.pointer (some ⟨p, 0, none⟩)] W (ResN p W (R u))) (hRb : ∀ u n v, R u = some (n, v) → v.size ≤ u.size) :
    Calls Tryd.prog 60 #[.pointer (some ⟨p, 0, none⟩)] w (ResN p w (atomE R s)) := by
  cases ht : tk s with
  | none => exact atom_end p s R w h hm ht
  | some bt =>
    obtain ⟨b, t⟩ := bt
    by_cases h40 : b = 40
    · subst h40; exact atom_par p s t R w h hm ht hR hRb
    by_cases h91 : b = 91
    · subst h91; exact atom_bra p s t R w h hm ht
    by_cases h46 : b = 46
    · subst h46; exact atom_dot p s t R w h hm ht
    by_cases h92 : b = 92
    · subst h92; exact atom_esc p s t R w h hm ht
    by_cases hno : b = 41 ∨ b = 93 ∨ b = 124 ∨ b = 42 ∨ b = 43 ∨ b = 63
    · exact atom_bad p s t R w h hm b ht hno
    · exact atom_lit p s t b R w h hm ht h40 h91 h46 h92 hno
end Go.Proofs.YtfamoikmfbpigaaDoor
