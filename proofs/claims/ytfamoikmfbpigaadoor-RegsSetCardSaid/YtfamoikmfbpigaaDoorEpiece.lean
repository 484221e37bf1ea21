/- regs: joined, piece. -/
import Derived.Test.YtfamoikmfbpigaaDoorEsig
namespace Go.Proofs.YtfamoikmfbpigaaDoor
open Go.RowKit

def joinedE (k : Int) : List Nd → Nd
  | [] => .mk 0 noSet []
  | [x] => x
  | x :: y :: l => .mk k noSet (x :: y :: l)
def signsE : Nat → Nd → ByteArray → Nd × ByteArray
  | 0, n, s => (n, s)
  | f + 1, n, s => if 0 < sgn (nextB s) then signsE f (.mk (sgn (nextB s)) noSet [n]) (s.extract 1 s.size) else (n, s)
def pieceE (R : ByteArray → Option (Nd × ByteArray)) (s : ByteArray) : Option (Nd × ByteArray) :=
  match atomE R s with
  | none => none
  | some (n, t) => some (signsE t.size n t)
theorem nextB_lt (s : ByteArray) : nextB s < 256 := by
  unfold nextB
  split
  · exact UInt8.toNat_lt_size _
  · omega
theorem tk_next {s : ByteArray} (h : 0 < s.size) : tk s = some (nextB s, s.extract 1 s.size) := by
  unfold tk nextB; rw [dif_pos h, dif_pos h]
theorem sgn_pos {s : ByteArray} (h : 0 < sgn (nextB s)) : 0 < s.size := by
  by_cases h0 : 0 < s.size
  · exact h0
  · exfalso
    have : nextB s = 0 := by unfold nextB; rw [dif_neg h0]
    rw [this] at h; exact absurd h (by decide)
theorem signsE_more (n : Nd) (s : ByteArray) (f : Nat) (h : s.size ≤ f) (hs : 0 < sgn (nextB s)) : signsE f n s = signsE (f - 1) (.mk (sgn (nextB s)) noSet [n]) (s.extract 1 s.size) := by
  have := sgn_pos hs
  obtain ⟨g, rfl⟩ : ∃ g, f = g + 1 := ⟨f - 1, by omega⟩
  rw [signsE, if_pos hs]; rfl
theorem signsE_end (n : Nd) (s : ByteArray) (f : Nat) (hs : ¬ 0 < sgn (nextB s)) : signsE f n s = (n, s) := by
  cases f with
  | zero => rfl
  | succ f => rw [signsE, if_neg hs]
theorem NdX.keepR {P : Nat → Prop} {z : Nat} {w W : World} {x : Nd} {cs : List Value} (h : NdX P w x cs) (hP : ∀ b, P b → b ≠ z) (hk : KeepR z w W) : NdX P W x cs :=
  NdX.keep (fun _ h _ => h) hk.size (fun _ _ _ hb hc => hk.cell hc (hP _ hb)) x cs h
theorem NdsX.keepR {P : Nat → Prop} {z : Nat} {w W : World} {L : List Nd} {A : Option Addr} {j : Nat} (h : NdsX P w L A j) (hP : ∀ b, P b → b ≠ z) (hk : KeepR z w W) : NdsX P W L A j :=
  NdsX.keep (fun _ h _ => h) hk.size (fun _ _ _ hb hc => hk.cell hc (hP _ hb)) L A j h
theorem NdX.mkat {P : Nat → Prop} {B : Nat} {W : World} (hq : ∀ b, P b → B ≤ b) (k : Int) (L : List Nd) (A : Option Addr) (m cap : Nat) (hl : L.length = m) (h3 : m ≤ cap) (h4 : cap ≤ maxLen) (h : NdsX P W L A 0) : NdAt B W (.mk k noSet L) (ndL k noSet (.slice A m cap)) := by
  unfold NdAt
  exact ⟨A, cap, by rw [hl], noSet_w, by omega, h4, NdsX.at hq _ _ _ h⟩
theorem BelowKeep {z : Nat} {w X Y : World} (h : Below w.heap.size w X) (hk : KeepR z X Y) (hz : w.heap.size ≤ z) : Below w.heap.size w Y :=
  ⟨hk.os.trans h.os, hk.tape.trans h.tape, hk.output.trans h.output, Nat.le_trans h.size hk.size, fun b hb => (hk.block b (Nat.lt_of_lt_of_le hb h.size) (by omega)).trans (h.block b hb)⟩
theorem NdX.low {P : Nat → Prop} {w W : World} {x : Nd} {cs : List Value} (h : NdX P w x cs) (hk : Below w.heap.size w W) : NdX P W x cs :=
  NdX.keep (fun _ h _ => h) hk.size (fun b o _ _ hc => (hk.cell (p := ⟨b, o, none⟩) (World.block_lt_of_cell? _ _ hc)).trans hc) x cs h
theorem NdsX.low {P : Nat → Prop} {w W : World} {L : List Nd} {A : Option Addr} {j : Nat} (h : NdsX P w L A j) (hk : Below w.heap.size w W) : NdsX P W L A j :=
  NdsX.keep (fun _ h _ => h) hk.size (fun b o _ _ hc => (hk.cell (p := ⟨b, o, none⟩) (World.block_lt_of_cell? _ _ hc)).trans hc) L A j h
set_option maxHeartbeats 1000000 in
set_option maxRecDepth 100000 in
theorem joined_any (B : Nat) (k : Int) (A : Option Addr) (m cap : Nat) (L : List Nd) (w : World) (hl : L.length = m) (hmc : m ≤ cap) (hcap : cap ≤ maxLen) (hm : m ≤ 1000000) (h : NdsX (fun b => B ≤ b) w L A 0) :
    Calls Tryd.prog 39 #[.int .i64 k, .slice A m cap] w fun e w' => ∃ cs, e = .returned (.agg cs.toArray) ∧ NdAt B w' (joinedE k L) cs ∧ Below w.heap.size w w' := by
  have HN := hide h
  clear h
  by_cases hm0 : m = 0
  · subst hm0
    have : L = [] := List.eq_nil_of_length_eq_zero hl
    subst this
    go_enter Tryd.func39, Tryd.ntmps39
    go_wp2
    refine bodyPost_ret (results_cell_row rfl _ _ w.heap.size 27 #[.int .i64 0, .int .u64 0, .int .u64 0, .int .u64 0, .int .u64 0, .slice none 0 0] (0, 0) _ rfl (Blk.new w 27 [.int .i64 0, .int .u64 0, .int .u64 0, .int .u64 0, .int .u64 0, .slice none 0 0]) Tryd.underlying27 rfl (by kernel_rfl)) rfl ?_
    have hk : Below w.heap.size w (w.alloc (.cells #[.int .i64 0, .int .u64 0, .int .u64 0, .int .u64 0, .int .u64 0, .slice none 0 0] 27)) := (Below.refl _ _).alloc (Nat.le_refl _) _
    exact ⟨ndL 0 noSet (.slice none 0 0), rfl, NdAt.leaf _ _ 0 noSet_w, hk⟩
  by_cases hm1 : m = 1
  · subst hm1
    obtain ⟨x, rfl⟩ : ∃ x, L = [x] := by
      match L, hl with
      | [x], _ => exact ⟨x, rfl⟩
    obtain ⟨b, o, cs, rfl, hb, -, hc, hx⟩ := HN.out.get 0 x rfl
    obtain ⟨k', x0, x1, x2, x3, A', m', cap', rfl, -, -⟩ := hx.form
    have a0 := hc 0 _ rfl
    have a1 := hc 1 _ rfl
    have a2 := hc 2 _ rfl
    have a3 := hc 3 _ rfl
    have a4 := hc 4 _ rfl
    have a5 := hc 5 _ rfl
    rw [show o + (0 + 0) * 6 + 0 = o by omega] at a0
    rw [show o + (0 + 0) * 6 + 1 = o + 1 by omega] at a1
    rw [show o + (0 + 0) * 6 + 2 = o + 2 by omega] at a2
    rw [show o + (0 + 0) * 6 + 3 = o + 3 by omega] at a3
    rw [show o + (0 + 0) * 6 + 4 = o + 4 by omega] at a4
    rw [show o + (0 + 0) * 6 + 5 = o + 5 by omega] at a5
    have HX := hide hx
    clear hc hx hl
    go_enter Tryd.func39, Tryd.ntmps39
    go_wp2
    refine bodyPost_ret (results_cell_row rfl _ _ w.heap.size 27 #[.int .i64 k', .int .u64 (x0 : Int), .int .u64 (x1 : Int), .int .u64 (x2 : Int), .int .u64 (x3 : Int), .slice A' m' cap'] (0, 0) _ rfl (Blk.new w 27 [.int .i64 k', .int .u64 (x0 : Int), .int .u64 (x1 : Int), .int .u64 (x2 : Int), .int .u64 (x3 : Int), .slice A' m' cap']) Tryd.underlying27 rfl (by kernel_rfl)) rfl ?_
    have hk : Below w.heap.size w (w.alloc (.cells #[.int .i64 k', .int .u64 (x0 : Int), .int .u64 (x1 : Int), .int .u64 (x2 : Int), .int .u64 (x3 : Int), .slice A' m' cap'] 27)) := (Below.refl _ _).alloc (Nat.le_refl _) _
    exact ⟨ndL k' [x0, x1, x2, x3] (.slice A' m' cap'), rfl, NdX.at (fun b h => h) _ _ (HX.out.low hk), hk⟩
  · have HJ := hide (show joinedE k L = .mk k noSet L by
      match L, hl with
      | [], hl => exact absurd hl.symm hm0
      | [x], hl => exact absurd hl.symm hm1
      | x :: y :: l, _ => rfl)
    have q0 : ((m : Int) == 0) = false := by simp; omega
    have q1 : ((m : Int) == 1) = false := by simp; omega
    go_enter Tryd.func39, Tryd.ntmps39
    go_wp2
    refine bodyPost_ret (results_cell_row rfl _ _ w.heap.size 27 #[.int .i64 k, .int .u64 0, .int .u64 0, .int .u64 0, .int .u64 0, .slice A m cap] (0, 0) _ rfl (Blk.new w 27 [.int .i64 k, .int .u64 0, .int .u64 0, .int .u64 0, .int .u64 0, .slice A m cap]) Tryd.underlying27 rfl (by kernel_rfl)) rfl ?_
    have hk : Below w.heap.size w (w.alloc (.cells #[.int .i64 k, .int .u64 0, .int .u64 0, .int .u64 0, .int .u64 0, .slice A m cap] 27)) := (Below.refl _ _).alloc (Nat.le_refl _) _
    rw [HJ.out]
    exact ⟨ndL k noSet (.slice A m cap), rfl, NdX.mkat (fun b h => h) k L A m cap hl hmc hcap (HN.out.low hk), hk⟩
theorem nd_putB {W : World} {z : Nat} {k0 : Int} {a0 b0 c0 d0 : Nat} {v0 : Value} (h : Blk W z 27 (ndL k0 [a0, b0, c0, d0] v0)) (k : Int) (v : Value) : Blk ((((((W.setCell ⟨z, 0, none⟩ (.int .i64 k)).setCell ⟨z, 1, none⟩ (.int .u64 0)).setCell ⟨z, 2, none⟩ (.int .u64 0)).setCell ⟨z, 3, none⟩ (.int .u64 0)).setCell ⟨z, 4, none⟩ (.int .u64 0)).setCell ⟨z, 5, none⟩ v) z 27 (ndL k noSet v) :=
  (((((h.set 0 _).set 1 _).set 2 _).set 3 _).set 4 _).set 5 _
theorem nd_keepB (W : World) (z : Nat) (k : Int) (v : Value) : KeepR z W ((((((W.setCell ⟨z, 0, none⟩ (.int .i64 k)).setCell ⟨z, 1, none⟩ (.int .u64 0)).setCell ⟨z, 2, none⟩ (.int .u64 0)).setCell ⟨z, 3, none⟩ (.int .u64 0)).setCell ⟨z, 4, none⟩ (.int .u64 0)).setCell ⟨z, 5, none⟩ v) :=
  (((((KeepR.setK z 0 W _).trans (KeepR.setK z 1 _ _)).trans (KeepR.setK z 2 _ _)).trans (KeepR.setK z 3 _ _)).trans (KeepR.setK z 4 _ _)).trans (KeepR.setK z 5 _ _)
/-- What piece's boxes hold. -/
structure PcS (r p z2 z3 : Nat) (w W : World) (n : Nd) (t : ByteArray) (cs : List Value) : Prop where
  rd : Rd W p t
  b2 : Blk W z2 27 (ndL 0 noSet (.slice none 0 0))
  b3 : Blk W z3 27 cs
  nd : NdX (fun b => w.heap.size ≤ b ∧ b ≠ z2 ∧ b ≠ z3) W n cs
  sg : SGr r W
  keep : KeepR p w W
theorem PcS.step {r p z2 z3 : Nat} {w W V : World} {n : Nd} {t t' : ByteArray} {cs : List Value} (h : PcS r p z2 z3 w W n t cs) (hr : Rd V p t') (hk : KeepR p W V) (hp : p < w.heap.size) (h2 : z2 ≠ p) (h3 : z3 ≠ p) (hg : 1 ≠ p) (hrp : r ≠ p) : PcS r p z2 z3 w V n t' cs :=
  ⟨hr, hk.blk h.b2 h2, hk.blk h.b3 h3, h.nd.keepR (fun b hb => by omega) hk, h.sg.keepR hk hg hrp, h.keep.trans hk⟩
theorem SGr.below {r : Nat} {w W : World} (h : SGr r w) (hb : Below w.heap.size w W) : SGr r W := by
  refine ⟨(hb.cell (World.block_lt_of_cell? _ _ h.1)).trans h.1, ?_⟩
  obtain ⟨es, clock, he, F, hs, hD⟩ := h.2
  exact ⟨es, clock, (hb.block r h.lt).trans he, F, hs, hD⟩
theorem PcS.low {r p z2 z3 : Nat} {w W V : World} {n : Nd} {t : ByteArray} {cs : List Value} (h : PcS r p z2 z3 w W n t cs) (hb : Below W.heap.size W V) : PcS r p z2 z3 w V n t cs :=
  ⟨h.rd.below hb, h.b2.below hb, h.b3.below hb, h.nd.low hb, h.sg.below hb, h.keep.trans (KeepR.of hb)⟩
/-- The node goes below a sign. -/
theorem PcS.wrap {r p z2 z3 zb : Nat} {w W : World} {n : Nd} {t : ByteArray} {k : Int} {x0 x1 x2 x3 : Nat} {v : Value} (h : PcS r p z2 z3 w W n t (ndL k [x0, x1, x2, x3] v)) (hb : Blk W zb 27 (ndL k [x0, x1, x2, x3] v)) (hz : w.heap.size ≤ zb) (h2 : zb ≠ z2) (h3 : zb ≠ z3) (h23 : z2 ≠ z3) (hp3 : p ≠ z3) (hz3 : w.heap.size ≤ z3) (hg : 1 ≠ z3) (hr : r ≠ z3) (j : Int) :
    PcS r p z2 z3 w ((((((W.setCell ⟨z3, 0, none⟩ (.int .i64 j)).setCell ⟨z3, 1, none⟩ (.int .u64 0)).setCell ⟨z3, 2, none⟩ (.int .u64 0)).setCell ⟨z3, 3, none⟩ (.int .u64 0)).setCell ⟨z3, 4, none⟩ (.int .u64 0)).setCell ⟨z3, 5, none⟩ (.slice (some ⟨zb, 0, none⟩) 1 1)) (.mk j noSet [n]) t (ndL j [0, 0, 0, 0] (.slice (some ⟨zb, 0, none⟩) 1 1)) := by
  have hk := nd_keepB W z3 j (.slice (some ⟨zb, 0, none⟩) 1 1)
  have hb' := hk.blk hb h3
  refine ⟨h.rd.keepZ hk hp3, hk.blk h.b2 h23, nd_putB h.b3 j _, ?_, h.sg.keepR hk hg hr, h.keep.own hk hz3⟩
  unfold NdX
  refine ⟨some ⟨zb, 0, none⟩, 1, rfl, noSet_w, Nat.le_refl _, by unfold maxLen; omega, NdsX.mk ⟨⟨hz, h2, h3⟩, hb'.lt⟩ _ 0 (fun i x hx => ?_)⟩
  match i, hx with
  | 0, hx =>
    simp at hx; subst hx
    refine ⟨_, h.nd.len, fun q u hu => ?_, h.nd.keepR (fun b hb => hb.2.2) hk⟩
    have := hb'.cell (i := q) hu
    rw [show 0 + (0 + 0) * 6 + q = q by omega]; exact this
  | i + 1, hx => simp at hx
/-- What a region's loads and look-ups read. -/
def SigAt (r b : Nat) (W : World) : Prop := W.cell? ⟨1, 0, none⟩ = some (.map (some r)) ∧ (Instr.lookup 99 (.map (some r)) (.int .u8 (b : Int)) false).run Tryd.prog W = .ok (.int .i64 (sgn b : Int)) W
theorem SGr.at {r : Nat} {W : World} (h : SGr r W) (b : Nat) (hb : b < 256) : W.cell? ⟨1, 0, none⟩ = some (.map (some r)) ∧ (Instr.lookup 99 (.map (some r)) (.int .u8 (b : Int)) false).run Tryd.prog W = .ok (.int .i64 (sgn b : Int)) W := ⟨h.1, h.look b hb⟩
set_option maxHeartbeats 4000000 in
set_option maxRecDepth 100000 in
theorem piece_any (r p : Nat) (s : ByteArray) (R : ByteArray → Option (Nd × ByteArray)) (w : World) (h : Rd w p s) (hm : s.size ≤ 100000) (hS : SGr r w) (hrp : r ≠ p) (hgp : 1 ≠ p)
    (hR : ∀ u W, u.size < s.size → Rd W p u → KeepR p w W → Calls Tryd.prog 27 #[.pointer (some ⟨p, 0, none⟩)] W (ResN p W (R u))) (hRb : ∀ u n v, R u = some (n, v) → v.size ≤ u.size) (hAb : ∀ n t, atomE R s = some (n, t) → t.size < s.size) :
    Calls Tryd.prog 50 #[.pointer (some ⟨p, 0, none⟩)] w (ResN p w (pieceE R s)) := by
  have HA := hide (fun W (hk : KeepR p w W) (h : Rd W p s) => atom_any p s R W h hm (fun u V hu hv hkv => hR u V hu hv (hk.trans hkv)) hRb)
  have HAB := hide hAb
  have hpw := h.lt
  have hgw : 1 < w.heap.size := World.block_lt_of_cell? _ _ hS.1
  have hrw := hS.lt
  have hb0 : Below w.heap.size w (w.alloc (.cells (ndL 0 noSet (.slice none 0 0)).toArray 27)) := (Below.refl _ _).alloc (Nat.le_refl _) _
  obtain ⟨W0, hW0⟩ : ∃ W, w.alloc (.cells (ndL 0 noSet (.slice none 0 0)).toArray 27) = W := ⟨_, rfl⟩
  have k0 : Blk W0 w.heap.size 27 (ndL 0 noSet (.slice none 0 0)) := by rw [← hW0]; exact Blk.new _ _ _
  rw [hW0] at hb0
  have HK0 := hide k0
  have HR0 := hide (h.below hb0)
  have HS0 := hide (hS.below hb0)
  have HP0 := hide (KeepR.of (p := p) hb0)
  have HPE := hide (show pieceE R s = (match atomE R s with | none => none | some (n, t) => some (signsE t.size n t)) from rfl)
  clear h hS hb0 k0 hR hRb hAb
  go_enter Tryd.func50, Tryd.ntmps50
  go_wp2_with fail
  rw [show w.alloc (.cells #[.int .i64 0, .int .u64 0, .int .u64 0, .int .u64 0, .int .u64 0, .slice none 0 0] 27) = W0 from hW0]
  clear hW0
  obtain ⟨z2, hz2⟩ : ∃ q, w.heap.size = q := ⟨_, rfl⟩
  rw [hz2] at HK0 ⊢
  refine (HA.out _ HP0.out HR0.out).mono ?_; rintro e w2 hr
  rcases hr.cases with ⟨hx, rfl, h3⟩ | ⟨n, t, k, x0, x1, x2, x3, A, m, cap, hx, rfl, hn, h3, h4⟩
  · go_wp2
    exact ⟨rfl, by rw [HPE.out, hx]; exact ⟨rfl, HP0.out.trans h3⟩⟩
  · have hts := HAB.out n t hx
    rw [hx] at HPE
    dsimp only at HPE
    have h2p : z2 ≠ p := by omega
    have hz2w := HK0.out.lt
    have hw0z : W0.heap.size ≤ w2.heap.size := h4.size
    have c1 : Below w2.heap.size w2 (w2.alloc (.cells (ndL k [x0, x1, x2, x3] (.slice A m cap)).toArray 27)) := (Below.refl _ _).alloc (Nat.le_refl _) _
    have HX := NdX.of _ _ hn
    have c2 := NdX.keep (Q := fun b => w.heap.size ≤ b ∧ b ≠ z2 ∧ b ≠ w2.heap.size) (fun b hb hlt => ⟨by omega, by omega, by omega⟩) (Nat.le_refl _) (fun _ _ _ _ h => h) _ _ HX
    have HB1 := hide (show PcS r p z2 w2.heap.size w (w2.alloc (.cells (ndL k [x0, x1, x2, x3] (.slice A m cap)).toArray 27)) n t (ndL k [x0, x1, x2, x3] (.slice A m cap)) from
      ⟨h3.below c1, (h4.blk HK0.out h2p).below c1, Blk.new _ _ _, c2.low c1, (HS0.out.keepR h4 hgp hrp).below c1, (HP0.out.trans h4).trans (KeepR.of c1)⟩)
    have hz3w : z2 < w2.heap.size := by omega
    clear c1 c2 HX hr hn h3 h4 HS0 HR0 HP0 HK0
    go_wp2_with fail
    rw [show w2.alloc (.cells #[.int .i64 k, .int .u64 (x0 : Int), .int .u64 (x1 : Int), .int .u64 (x2 : Int), .int .u64 (x3 : Int), .slice A m cap] 27) = w2.alloc (.cells (ndL k [x0, x1, x2, x3] (.slice A m cap)).toArray 27) from rfl]
    obtain ⟨z3, hz3⟩ : ∃ q, w2.heap.size = q := ⟨_, rfl⟩
    obtain ⟨w3, hw3⟩ : ∃ W, w2.alloc (.cells (ndL k [x0, x1, x2, x3] (.slice A m cap)).toArray 27) = W := ⟨_, rfl⟩
    rw [hw3, hz3] at HB1
    rw [hw3, hz3]
    have h3p : z3 ≠ p := by omega
    have h23 : z2 ≠ z3 := by omega
    have hr3 : r ≠ z3 := by omega
    have hg3 : 1 ≠ z3 := by omega
    have hz3l : w.heap.size ≤ z3 := by omega
    clear hw3 hz3 hx hz2w hw0z
    obtain ⟨X, hX⟩ : ∃ X, signsE t.size n t = X := ⟨_, rfl⟩
    rw [hX] at HPE
    have HXE := hide hX
    clear hX
    go_loopw [] (fun wr => ∃ (n : Nd) (t : ByteArray) (f : Nat) (k : Int) (x0 x1 x2 x3 : Nat) (A : Option Addr) (m cap : Nat), t.size ≤ f ∧ t.size < s.size ∧ Hid (signsE f n t = X) ∧ Hid (PcS r p z2 z3 w wr n t (ndL k [x0, x1, x2, x3] (.slice A m cap)))) (fun wr => sizeR wr p)
    case atStart => exact ⟨n, t, t.size, k, x0, x1, x2, x3, A, m, cap, Nat.le_refl _, hts, HXE, HB1⟩
    case round =>
      clear HB1 HXE hts
      obtain ⟨n, t, f, k, x0, x1, x2, x3, A, m, cap, hf, hts, HXE, HB⟩ := hrel
      have hsr := sizeR_rd HB.out.rd
      have hnl := nextB_lt t
      have HBd := hide (HB.out.low ((Below.refl _ _).drew))
      obtain ⟨bb, hbb⟩ : ∃ b, nextB t = b := ⟨_, rfl⟩
      have HBB := hide hbb
      rw [hbb] at hnl
      obtain ⟨gg, hgg⟩ : ∃ g, sgn bb = g := ⟨_, rfl⟩
      by_cases hgo : 0 < sgn (nextB t)
      · have hg0 : (0 : Int) < (sgn bb : Int) := by rw [← hbb]; omega
        have HXM := hide (show signsE (f - 1) (.mk (gg : Int) noSet [n]) (t.extract 1 t.size) = X by rw [← HXE.out, signsE_more n t f hf hgo, hbb, hgg])
        have hpos := sgn_pos hgo
        have HT := hide (fun W (h : Rd W p t) => by have := take_any p t W h (by omega); rw [tk_next (sgn_pos hgo), hbb] at this; exact this)
        go_wp2
        refine wp_region_held_drew (S := (fun W => W.cell? ⟨1, 0, none⟩ = some (.map (some r)) ∧ (Instr.lookup 99 (.map (some r)) (.int .u8 (bb : Int)) false).run Tryd.prog W = .ok (.int .i64 (sgn bb : Int)) W)) (by kernel_rfl) ?_ (fun hHeld => ?_)
        · exact HBd.out.sg.at bb hnl
        refine wpAnyH_at (i := 0) (v := ?va0) (d := 6) rfl rfl (by kernel_rfl) (by kernel_rfl) (by kernel_rfl) (fun _ _ _ h => h) (Or.inl ⟨by rfl, fun w' hSw => ?hya0⟩) (by assumption) ?resta0
        case hya0 =>
          (try dsimp only at hSw)
          go_simp
          (try with_reducible rfl)
        (try simp only [Act.put, List.setIfInBounds_toArray, List.set_cons_zero, List.set_cons_succ])
        refine wpAnyH_at (i := 1) (v := ?va1) (d := 7) rfl rfl (by kernel_rfl) (by kernel_rfl) (by kernel_rfl) (fun _ _ _ h => h) (Or.inl ⟨by rfl, fun w' hSw => ?hya1⟩) (by assumption) ?resta1
        case hya1 =>
          (try dsimp only at hSw)
          go_simp
          (try with_reducible rfl)
        (try simp only [Act.put, List.setIfInBounds_toArray, List.set_cons_zero, List.set_cons_succ])
        refine wpAnyH_ready (rs := [2]) (by kernel_rfl) (by simp) ?_
        refine AllReadyH.cons rfl (fun K' hK' => ?_) AllReadyH.nil
        go_simp
        refine (rnext_any p t _ HBd.out.rd (by omega)).mono ?_
        rintro e w' ⟨rfl, rfl⟩
        rw [HBB.out]
        go_wp2_with fail
        refine hK'.out _ _ ?_ (fun hHeld => ?_)
        · exact HBd.out.sg.at bb hnl
        clear hK' K'
        (try simp only [Act.put, List.getElem_toArray, List.getElem_cons_succ, List.getElem_cons_zero, List.setIfInBounds_toArray, List.set_cons_zero, List.set_cons_succ])
        refine wpAnyH_at (i := 3) (v := ?va3) (d := 9) rfl rfl (by kernel_rfl) (by kernel_rfl) (by kernel_rfl) (fun _ _ _ h => h) (Or.inl ⟨by rfl, fun w' hSw => ?hya3⟩) (by assumption) ?resta3
        case hya3 =>
          (try dsimp only at hSw)
          go_simp
          (try with_reducible rfl)
        (try simp only [Act.put, List.setIfInBounds_toArray, List.set_cons_zero, List.set_cons_succ])
        refine wpAnyH_at (i := 4) (v := ?va4) (d := 10) rfl rfl (by kernel_rfl) (by kernel_rfl) (by kernel_rfl) (fun _ _ _ h => h) (Or.inl ⟨by rfl, fun w' hSw => ?hya4⟩) (by assumption) ?resta4
        case hya4 =>
          (try dsimp only at hSw)
          go_simp
          (try with_reducible rfl)
        (try simp only [Act.put, List.setIfInBounds_toArray, List.set_cons_zero, List.set_cons_succ])
        refine wpAnyH_done (by kernel_rfl) ?_ _
        go_wp2
        have HBe := hide (HBd.out.low ((Below.refl _ _).drew))
        obtain ⟨wd, hwd⟩ : ∃ W, wr.drew.drew = W := ⟨_, rfl⟩
        rw [hwd] at HBe
        refine wp_region_held_drew (S := (fun W => W.cell? ⟨1, 0, none⟩ = some (.map (some r)) ∧ (Instr.lookup 99 (.map (some r)) (.int .u8 (bb : Int)) false).run Tryd.prog W = .ok (.int .i64 (sgn bb : Int)) W)) (by kernel_rfl) ?_ (fun hHeld => ?_)
        · exact (by rw [show wr.drew.drew = wd from hwd]; exact HBe.out.sg.at bb hnl)
        rw [show wr.drew.drew = wd from hwd] at hHeld ⊢
        refine wpAnyH_at (i := 0) (v := ?vb0) (d := 11) rfl rfl (by kernel_rfl) (by kernel_rfl) (by kernel_rfl) (fun _ _ _ h => h) (Or.inl ⟨by rfl, fun w' hSw => ?hyb0⟩) (by assumption) ?restb0
        case hyb0 =>
          (try dsimp only at hSw)
          go_simp
          (try with_reducible rfl)
        (try simp only [Act.put, List.setIfInBounds_toArray, List.set_cons_zero, List.set_cons_succ])
        refine wpAnyH_at (i := 1) (v := ?vb1) (d := 12) rfl rfl (by kernel_rfl) (by kernel_rfl) (by kernel_rfl) (fun _ _ _ h => h) (Or.inl ⟨by rfl, fun w' hSw => ?hyb1⟩) (by assumption) ?restb1
        case hyb1 =>
          (try dsimp only at hSw)
          go_simp
          (try with_reducible rfl)
        (try simp only [Act.put, List.setIfInBounds_toArray, List.set_cons_zero, List.set_cons_succ])
        refine wpAnyH_ready (rs := [2, 4]) (by kernel_rfl) (by simp) ?_
        refine AllReadyH.cons rfl (fun K' hK' => ?_) (AllReadyH.cons rfl (fun K' hK' => ?_) AllReadyH.nil)
        · go_simp
          refine (HT.out _ HBe.out.rd).mono ?_; rintro e w4 ⟨rfl, h1, h2⟩
          have HB4 := hide (HBe.out.step h1 h2 hpw h2p h3p hgp hrp)
          clear h1 h2
          go_wp2_with fail
          refine hK'.out _ _ ?_ (fun hHeld => ?_)
          · exact HB4.out.sg.at bb hnl
          clear hK' K'
          (try simp only [Act.put, List.getElem_toArray, List.getElem_cons_succ, List.getElem_cons_zero, List.setIfInBounds_toArray, List.set_cons_zero, List.set_cons_succ])
          refine wpAnyH_at (i := 3) (v := ?vc3) (d := 14) rfl rfl (by kernel_rfl) (by kernel_rfl) (by kernel_rfl) (fun _ _ _ h => h) (Or.inl ⟨by rfl, fun w' hSw => ?hyc3⟩) (by assumption) ?restc3
          case hyc3 =>
            (try dsimp only at hSw)
            go_simp
            (try with_reducible rfl)
          (try simp only [Act.put, List.setIfInBounds_toArray, List.set_cons_zero, List.set_cons_succ])
          have a0 := HB4.out.b3.cell (i := 0) rfl
          have a1 := HB4.out.b3.cell (i := 1) rfl
          have a2 := HB4.out.b3.cell (i := 2) rfl
          have a3 := HB4.out.b3.cell (i := 3) rfl
          have a4 := HB4.out.b3.cell (i := 4) rfl
          have a5 := HB4.out.b3.cell (i := 5) rfl
          refine wpAnyH_ready (rs := [4]) (by kernel_rfl) (by simp) ?_
          refine AllReadyH.cons rfl (fun K' hK' => ?_) AllReadyH.nil
          go_simp
          refine hK'.out _ _ ?_ (fun hHeld => ?_)
          · exact HB4.out.sg.at bb hnl
          clear hK' K'
          (try simp only [Act.put, List.getElem_toArray, List.getElem_cons_succ, List.getElem_cons_zero, List.setIfInBounds_toArray, List.set_cons_zero, List.set_cons_succ])
          have HN5 := hide (show Blk (w4.alloc (.cells (ndL k [x0, x1, x2, x3] (.slice A m cap)).toArray 27)) w4.heap.size 27 (ndL k [x0, x1, x2, x3] (.slice A m cap)) from Blk.new _ _ _)
          have HB5 := hide (HB4.out.low ((Below.refl _ _).alloc (Nat.le_refl _) (.cells (ndL k [x0, x1, x2, x3] (.slice A m cap)).toArray 27)))
          refine wpAnyH_ready (rs := [5]) (by kernel_rfl) (by simp) ?_
          refine AllReadyH.cons rfl (fun K' hK' => ?_) AllReadyH.nil
          go_simp
          refine hK'.out _ _ ?_ (fun hHeld => ?_)
          · exact HB5.out.sg.at bb hnl
          clear hK' K'
          (try simp only [Act.put, List.getElem_toArray, List.getElem_cons_succ, List.getElem_cons_zero, List.setIfInBounds_toArray, List.set_cons_zero, List.set_cons_succ])
          refine wpAnyH_at (i := 6) (v := ?vd6) (d := 17) rfl rfl (by kernel_rfl) (by kernel_rfl) (by kernel_rfl) (fun _ _ _ h => h) (Or.inl ⟨by rfl, fun w' hSw => ?hyd6⟩) (by assumption) ?restd6
          case hyd6 =>
            (try dsimp only at hSw)
            go_simp
            (try with_reducible rfl)
          (try simp only [Act.put, List.setIfInBounds_toArray, List.set_cons_zero, List.set_cons_succ])
          have hzb : w4.heap.size ≠ z2 := fun e => by have := HB4.out.b2.lt; omega
          have hzb3 : w4.heap.size ≠ z3 := fun e => by have := HB4.out.b3.lt; omega
          have hzbw : w.heap.size ≤ w4.heap.size := HB4.out.keep.size
          rw [show w4.alloc (.cells #[.int .i64 k, .int .u64 (x0 : Int), .int .u64 (x1 : Int), .int .u64 (x2 : Int), .int .u64 (x3 : Int), .slice A m cap] 27) = w4.alloc (.cells (ndL k [x0, x1, x2, x3] (.slice A m cap)).toArray 27) from rfl]
          obtain ⟨zb, hzbe⟩ : ∃ q, w4.heap.size = q := ⟨_, rfl⟩
          obtain ⟨wa, hwa⟩ : ∃ W, w4.alloc (.cells (ndL k [x0, x1, x2, x3] (.slice A m cap)).toArray 27) = W := ⟨_, rfl⟩
          rw [hwa] at HB5
          rw [hwa, hzbe] at HN5
          rw [hzbe] at hzb hzb3 hzbw
          rw [hwa, hzbe]
          clear a0 a1 a2 a3 a4 a5
          have a0 := HB5.out.b3.cell (i := 0) rfl
          have a1 := HB5.out.b3.cell (i := 1) rfl
          have a2 := HB5.out.b3.cell (i := 2) rfl
          have a3 := HB5.out.b3.cell (i := 3) rfl
          have a4 := HB5.out.b3.cell (i := 4) rfl
          have a5 := HB5.out.b3.cell (i := 5) rfl
          have af := fun i => HB5.out.b3.frozen i
          have HB6 := hide (HB5.out.wrap HN5.out hzbw hzb hzb3 h23 (Ne.symm h3p) hz3l hg3 hr3 (gg : Int))
          refine wpAnyH_ready (rs := [7]) (by kernel_rfl) (by simp) ?_
          refine AllReadyH.cons rfl (fun K' hK' => ?_) AllReadyH.nil
          go_simp
          refine hK'.out _ _ ?_ (fun hHeld => ?_)
          · exact HB6.out.sg.at bb hnl
          clear hK' K'
          (try simp only [Act.put, List.getElem_toArray, List.getElem_cons_succ, List.getElem_cons_zero, List.setIfInBounds_toArray, List.set_cons_zero, List.set_cons_succ])
          refine wpAnyH_done (by kernel_rfl) ?_ _
          have hs6 := sizeR_rd HB6.out.rd
          go_wp2
          exact ⟨⟨_, t.extract 1 t.size, f - 1, gg, 0, 0, 0, 0, some ⟨zb, 0, none⟩, 1, 1, by rw [ByteArray.size_extract]; omega, by rw [ByteArray.size_extract]; omega, HXM, HB6⟩, by rw [hs6, hsr, ByteArray.size_extract]; have := sgn_pos hgo; omega⟩
        · have a0 := HBe.out.b3.cell (i := 0) rfl
          have a1 := HBe.out.b3.cell (i := 1) rfl
          have a2 := HBe.out.b3.cell (i := 2) rfl
          have a3 := HBe.out.b3.cell (i := 3) rfl
          have a4 := HBe.out.b3.cell (i := 4) rfl
          have a5 := HBe.out.b3.cell (i := 5) rfl
          go_simp
          refine hK'.out _ _ ?_ (fun hHeld => ?_)
          · exact HBe.out.sg.at bb hnl
          clear hK' K'
          (try simp only [Act.put, List.getElem_toArray, List.getElem_cons_succ, List.getElem_cons_zero, List.setIfInBounds_toArray, List.set_cons_zero, List.set_cons_succ])
          refine wpAnyH_ready (rs := [2, 5]) (by kernel_rfl) (by simp) ?_
          refine AllReadyH.cons rfl (fun K' hK' => ?_) (AllReadyH.cons rfl (fun K' hK' => ?_) AllReadyH.nil)
          · go_simp
            refine (HT.out _ HBe.out.rd).mono ?_; rintro e w4 ⟨rfl, h1, h2⟩
            have HB4 := hide (HBe.out.step h1 h2 hpw h2p h3p hgp hrp)
            clear h1 h2
            go_wp2_with fail
            refine hK'.out _ _ ?_ (fun hHeld => ?_)
            · exact HB4.out.sg.at bb hnl
            clear hK' K'
            (try simp only [Act.put, List.getElem_toArray, List.getElem_cons_succ, List.getElem_cons_zero, List.setIfInBounds_toArray, List.set_cons_zero, List.set_cons_succ])
            refine wpAnyH_at (i := 3) (v := ?ve3) (d := 14) rfl rfl (by kernel_rfl) (by kernel_rfl) (by kernel_rfl) (fun _ _ _ h => h) (Or.inl ⟨by rfl, fun w' hSw => ?hye3⟩) (by assumption) ?reste3
            case hye3 =>
              (try dsimp only at hSw)
              go_simp
              (try with_reducible rfl)
            (try simp only [Act.put, List.setIfInBounds_toArray, List.set_cons_zero, List.set_cons_succ])
            have HN5 := hide (show Blk (w4.alloc (.cells (ndL k [x0, x1, x2, x3] (.slice A m cap)).toArray 27)) w4.heap.size 27 (ndL k [x0, x1, x2, x3] (.slice A m cap)) from Blk.new _ _ _)
            have HB5 := hide (HB4.out.low ((Below.refl _ _).alloc (Nat.le_refl _) (.cells (ndL k [x0, x1, x2, x3] (.slice A m cap)).toArray 27)))
            refine wpAnyH_ready (rs := [5]) (by kernel_rfl) (by simp) ?_
            refine AllReadyH.cons rfl (fun K' hK' => ?_) AllReadyH.nil
            go_simp
            refine hK'.out _ _ ?_ (fun hHeld => ?_)
            · exact HB5.out.sg.at bb hnl
            clear hK' K'
            (try simp only [Act.put, List.getElem_toArray, List.getElem_cons_succ, List.getElem_cons_zero, List.setIfInBounds_toArray, List.set_cons_zero, List.set_cons_succ])
            refine wpAnyH_at (i := 6) (v := ?vf6) (d := 17) rfl rfl (by kernel_rfl) (by kernel_rfl) (by kernel_rfl) (fun _ _ _ h => h) (Or.inl ⟨by rfl, fun w' hSw => ?hyf6⟩) (by assumption) ?restf6
            case hyf6 =>
              (try dsimp only at hSw)
              go_simp
              (try with_reducible rfl)
            (try simp only [Act.put, List.setIfInBounds_toArray, List.set_cons_zero, List.set_cons_succ])
            have hzb : w4.heap.size ≠ z2 := fun e => by have := HB4.out.b2.lt; omega
            have hzb3 : w4.heap.size ≠ z3 := fun e => by have := HB4.out.b3.lt; omega
            have hzbw : w.heap.size ≤ w4.heap.size := HB4.out.keep.size
            rw [show w4.alloc (.cells #[.int .i64 k, .int .u64 (x0 : Int), .int .u64 (x1 : Int), .int .u64 (x2 : Int), .int .u64 (x3 : Int), .slice A m cap] 27) = w4.alloc (.cells (ndL k [x0, x1, x2, x3] (.slice A m cap)).toArray 27) from rfl]
            obtain ⟨zb, hzbe⟩ : ∃ q, w4.heap.size = q := ⟨_, rfl⟩
            obtain ⟨wa, hwa⟩ : ∃ W, w4.alloc (.cells (ndL k [x0, x1, x2, x3] (.slice A m cap)).toArray 27) = W := ⟨_, rfl⟩
            rw [hwa] at HB5
            rw [hwa, hzbe] at HN5
            rw [hzbe] at hzb hzb3 hzbw
            rw [hwa, hzbe]
            clear a0 a1 a2 a3 a4 a5
            have a0 := HB5.out.b3.cell (i := 0) rfl
            have a1 := HB5.out.b3.cell (i := 1) rfl
            have a2 := HB5.out.b3.cell (i := 2) rfl
            have a3 := HB5.out.b3.cell (i := 3) rfl
            have a4 := HB5.out.b3.cell (i := 4) rfl
            have a5 := HB5.out.b3.cell (i := 5) rfl
            have af := fun i => HB5.out.b3.frozen i
            have HB6 := hide (HB5.out.wrap HN5.out hzbw hzb hzb3 h23 (Ne.symm h3p) hz3l hg3 hr3 (gg : Int))
            refine wpAnyH_ready (rs := [7]) (by kernel_rfl) (by simp) ?_
            refine AllReadyH.cons rfl (fun K' hK' => ?_) AllReadyH.nil
            go_simp
            refine hK'.out _ _ ?_ (fun hHeld => ?_)
            · exact HB6.out.sg.at bb hnl
            clear hK' K'
            (try simp only [Act.put, List.getElem_toArray, List.getElem_cons_succ, List.getElem_cons_zero, List.setIfInBounds_toArray, List.set_cons_zero, List.set_cons_succ])
            refine wpAnyH_done (by kernel_rfl) ?_ _
            have hs6 := sizeR_rd HB6.out.rd
            go_wp2
            exact ⟨⟨_, t.extract 1 t.size, f - 1, gg, 0, 0, 0, 0, some ⟨zb, 0, none⟩, 1, 1, by rw [ByteArray.size_extract]; omega, by rw [ByteArray.size_extract]; omega, HXM, HB6⟩, by rw [hs6, hsr, ByteArray.size_extract]; have := sgn_pos hgo; omega⟩
          · have HN5 := hide (show Blk (wd.alloc (.cells (ndL k [x0, x1, x2, x3] (.slice A m cap)).toArray 27)) wd.heap.size 27 (ndL k [x0, x1, x2, x3] (.slice A m cap)) from Blk.new _ _ _)
            have HB5 := hide (HBe.out.low ((Below.refl _ _).alloc (Nat.le_refl _) (.cells (ndL k [x0, x1, x2, x3] (.slice A m cap)).toArray 27)))
            have hzb : wd.heap.size ≠ z2 := fun e => by have := HBe.out.b2.lt; omega
            have hzb3 : wd.heap.size ≠ z3 := fun e => by have := HBe.out.b3.lt; omega
            have hzbp : wd.heap.size ≠ p := fun e => by have := HBe.out.rd.lt; omega
            have hzbw : w.heap.size ≤ wd.heap.size := HBe.out.keep.size
            go_simp
            refine hK'.out _ _ ?_ (fun hHeld => ?_)
            · exact HB5.out.sg.at bb hnl
            clear hK' K'
            (try simp only [Act.put, List.getElem_toArray, List.getElem_cons_succ, List.getElem_cons_zero, List.setIfInBounds_toArray, List.set_cons_zero, List.set_cons_succ])
            rw [show wd.alloc (.cells #[.int .i64 k, .int .u64 (x0 : Int), .int .u64 (x1 : Int), .int .u64 (x2 : Int), .int .u64 (x3 : Int), .slice A m cap] 27) = wd.alloc (.cells (ndL k [x0, x1, x2, x3] (.slice A m cap)).toArray 27) from rfl]
            obtain ⟨zb, hzbe⟩ : ∃ q, wd.heap.size = q := ⟨_, rfl⟩
            obtain ⟨wa, hwa⟩ : ∃ W, wd.alloc (.cells (ndL k [x0, x1, x2, x3] (.slice A m cap)).toArray 27) = W := ⟨_, rfl⟩
            rw [hwa] at HB5
            rw [hwa, hzbe] at HN5
            rw [hzbe] at hzb hzb3 hzbw hzbp
            rw [hwa, hzbe]
            clear a0 a1 a2 a3 a4 a5 hHeld
            refine wpAnyH_ready (rs := [2]) (by kernel_rfl) (by simp) ?_
            refine AllReadyH.cons rfl (fun K' hK' => ?_) AllReadyH.nil
            go_simp
            refine (HT.out _ HB5.out.rd).mono ?_; rintro e w4 ⟨rfl, h1, h2⟩
            have HB5 := hide (HB5.out.step h1 h2 hpw h2p h3p hgp hrp)
            have HN5 := hide (h2.blk HN5.out hzbp)
            clear h1 h2
            go_wp2_with fail
            refine hK'.out _ _ ?_ (fun hHeld => ?_)
            · exact HB5.out.sg.at bb hnl
            clear hK' K'
            (try simp only [Act.put, List.getElem_toArray, List.getElem_cons_succ, List.getElem_cons_zero, List.setIfInBounds_toArray, List.set_cons_zero, List.set_cons_succ])
            refine wpAnyH_at (i := 3) (v := ?vg3) (d := 14) rfl rfl (by kernel_rfl) (by kernel_rfl) (by kernel_rfl) (fun _ _ _ h => h) (Or.inl ⟨by rfl, fun w' hSw => ?hyg3⟩) (by assumption) ?restg3
            case hyg3 =>
              (try dsimp only at hSw)
              go_simp
              (try with_reducible rfl)
            (try simp only [Act.put, List.setIfInBounds_toArray, List.set_cons_zero, List.set_cons_succ])
            refine wpAnyH_at (i := 6) (v := ?vg6) (d := 17) rfl rfl (by kernel_rfl) (by kernel_rfl) (by kernel_rfl) (fun _ _ _ h => h) (Or.inl ⟨by rfl, fun w' hSw => ?hyg6⟩) (by assumption) ?restg6
            case hyg6 =>
              (try dsimp only at hSw)
              go_simp
              (try with_reducible rfl)
            (try simp only [Act.put, List.setIfInBounds_toArray, List.set_cons_zero, List.set_cons_succ])
            have a0 := HB5.out.b3.cell (i := 0) rfl
            have a1 := HB5.out.b3.cell (i := 1) rfl
            have a2 := HB5.out.b3.cell (i := 2) rfl
            have a3 := HB5.out.b3.cell (i := 3) rfl
            have a4 := HB5.out.b3.cell (i := 4) rfl
            have a5 := HB5.out.b3.cell (i := 5) rfl
            have af := fun i => HB5.out.b3.frozen i
            have HB6 := hide (HB5.out.wrap HN5.out hzbw hzb hzb3 h23 (Ne.symm h3p) hz3l hg3 hr3 (gg : Int))
            refine wpAnyH_ready (rs := [7]) (by kernel_rfl) (by simp) ?_
            refine AllReadyH.cons rfl (fun K' hK' => ?_) AllReadyH.nil
            go_simp
            refine hK'.out _ _ ?_ (fun hHeld => ?_)
            · exact HB6.out.sg.at bb hnl
            clear hK' K'
            (try simp only [Act.put, List.getElem_toArray, List.getElem_cons_succ, List.getElem_cons_zero, List.setIfInBounds_toArray, List.set_cons_zero, List.set_cons_succ])
            refine wpAnyH_done (by kernel_rfl) ?_ _
            have hs6 := sizeR_rd HB6.out.rd
            go_wp2
            exact ⟨⟨_, t.extract 1 t.size, f - 1, gg, 0, 0, 0, 0, some ⟨zb, 0, none⟩, 1, 1, by rw [ByteArray.size_extract]; omega, by rw [ByteArray.size_extract]; omega, HXM, HB6⟩, by rw [hs6, hsr, ByteArray.size_extract]; have := sgn_pos hgo; omega⟩
      · have hg0 : ¬ (0 : Int) < (sgn bb : Int) := by rw [← hbb]; omega
        go_wp2
        refine wp_region_held_drew (S := (fun W => W.cell? ⟨1, 0, none⟩ = some (.map (some r)) ∧ (Instr.lookup 99 (.map (some r)) (.int .u8 (bb : Int)) false).run Tryd.prog W = .ok (.int .i64 (sgn bb : Int)) W)) (by kernel_rfl) ?_ (fun hHeld => ?_)
        · exact HBd.out.sg.at bb hnl
        refine wpAnyH_at (i := 0) (v := ?vy0) (d := 6) rfl rfl (by kernel_rfl) (by kernel_rfl) (by kernel_rfl) (fun _ _ _ h => h) (Or.inl ⟨by rfl, fun w' hSw => ?hyy0⟩) (by assumption) ?resty0
        case hyy0 =>
          (try dsimp only at hSw)
          go_simp
          (try with_reducible rfl)
        (try simp only [Act.put, List.setIfInBounds_toArray, List.set_cons_zero, List.set_cons_succ])
        refine wpAnyH_at (i := 1) (v := ?vy1) (d := 7) rfl rfl (by kernel_rfl) (by kernel_rfl) (by kernel_rfl) (fun _ _ _ h => h) (Or.inl ⟨by rfl, fun w' hSw => ?hyy1⟩) (by assumption) ?resty1
        case hyy1 =>
          (try dsimp only at hSw)
          go_simp
          (try with_reducible rfl)
        (try simp only [Act.put, List.setIfInBounds_toArray, List.set_cons_zero, List.set_cons_succ])
        refine wpAnyH_ready (rs := [2]) (by kernel_rfl) (by simp) ?_
        refine AllReadyH.cons rfl (fun K' hK' => ?_) AllReadyH.nil
        go_simp
        refine (rnext_any p t _ HBd.out.rd (by omega)).mono ?_
        rintro e w' ⟨rfl, rfl⟩
        rw [HBB.out]
        go_wp2_with fail
        refine hK'.out _ _ ?_ (fun hHeld => ?_)
        · exact HBd.out.sg.at bb hnl
        clear hK' K'
        (try simp only [Act.put, List.getElem_toArray, List.getElem_cons_succ, List.getElem_cons_zero, List.setIfInBounds_toArray, List.set_cons_zero, List.set_cons_succ])
        refine wpAnyH_at (i := 3) (v := ?vy3) (d := 9) rfl rfl (by kernel_rfl) (by kernel_rfl) (by kernel_rfl) (fun _ _ _ h => h) (Or.inl ⟨by rfl, fun w' hSw => ?hyy3⟩) (by assumption) ?resty3
        case hyy3 =>
          (try dsimp only at hSw)
          go_simp
          (try with_reducible rfl)
        (try simp only [Act.put, List.setIfInBounds_toArray, List.set_cons_zero, List.set_cons_succ])
        refine wpAnyH_at (i := 4) (v := ?vy4) (d := 10) rfl rfl (by kernel_rfl) (by kernel_rfl) (by kernel_rfl) (fun _ _ _ h => h) (Or.inl ⟨by rfl, fun w' hSw => ?hyy4⟩) (by assumption) ?resty4
        case hyy4 =>
          (try dsimp only at hSw)
          go_simp
          (try with_reducible rfl)
        (try simp only [Act.put, List.setIfInBounds_toArray, List.set_cons_zero, List.set_cons_succ])
        refine wpAnyH_done (by kernel_rfl) ?_ _
        have HXM := hide (show (n, t) = X by rw [← HXE.out, signsE_end n t f hgo])
        obtain ⟨wd, hwd⟩ : ∃ W, wr.drew = W := ⟨_, rfl⟩
        rw [hwd] at HBd ⊢
        have a0 := HBd.out.b3.cell (i := 0) rfl
        have a1 := HBd.out.b3.cell (i := 1) rfl
        have a2 := HBd.out.b3.cell (i := 2) rfl
        have a3 := HBd.out.b3.cell (i := 3) rfl
        have a4 := HBd.out.b3.cell (i := 4) rfl
        have a5 := HBd.out.b3.cell (i := 5) rfl
        have b0 := HBd.out.b2.cell (i := 0) rfl
        have b1 := HBd.out.b2.cell (i := 1) rfl
        have b2 := HBd.out.b2.cell (i := 2) rfl
        have b3 := HBd.out.b2.cell (i := 3) rfl
        have b4 := HBd.out.b2.cell (i := 4) rfl
        have b5 := HBd.out.b2.cell (i := 5) rfl
        have bf := fun i => HBd.out.b2.frozen i
        go_wp2
        refine bodyPost_ret (results_cell_row rfl _ _ z2 27 (ndL k [x0, x1, x2, x3] (.slice A m cap)).toArray (0, 0) _ rfl (nd_put HBd.out.b2 k x0 x1 x2 x3 (.slice A m cap)) Tryd.underlying27 rfl (by kernel_rfl)) rfl ?_
        have hk := nd_keep wd z2 k x0 x1 x2 x3 (.slice A m cap)
        rw [HPE.out, ← HXM.out]
        exact ⟨_, rfl, NdX.at (fun b hb => hb.1) _ _ (HBd.out.nd.keepR (fun b hb => hb.2.1) hk), HBd.out.rd.keepZ hk (Ne.symm h2p), HBd.out.keep.own hk (by omega)⟩
end Go.Proofs.YtfamoikmfbpigaaDoor
