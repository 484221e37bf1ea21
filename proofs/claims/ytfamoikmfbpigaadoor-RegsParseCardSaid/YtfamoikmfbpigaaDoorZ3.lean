/- regs: rows. regs: Parse. limnerref10: at, special, digit, sign, Has. regs.shown, limnerref10.byte1. A set as a text: its runs. Plain. The parser over lists of bytes; a byte that is shown is read. Plain. A set that is shown is read. Plain. The document's letter. Slices of strings of the call's own. -/
import Derived.Test.YtfamoikmfbpigaaDoorZ2
import Derived.Tactics
import Derived.Tactics2
import Derived.Defers
import Derived.Recover
import Derived.Laws.Pointers
import Derived.Laws.BytesArg
import Derived.Lib.Join
import Derived.Deep.QuietTactic
import Derived.BigQuiet
import Derived.Deep.RegionHeld3
import Derived.Test.YtfamoikmfbpigaaDoorZ1
import Derived.Test.YtfamoikmfbpigaaDoorShelf
import Derived.WalkKit
import Derived.WalkSpells
import Derived.WalkLawsBesides
import Derived.Handy
import Derived.OwnWalk
import Derived.RangeFuncOwn
import Derived.RangeFuncKeeps
namespace Go.Proofs.YtfamoikmfbpigaaDoor
open Go.RowKit

set_option maxHeartbeats 4000000 in
set_option maxRecDepth 100000 in
theorem rows_step (r p : Nat) (s : ByteArray) (R : ByteArray → Option (Nd × ByteArray)) (w : World) (h : Rd w p s) (hm : s.size ≤ 100000) (hS : SGr r w) (hrp : r ≠ p) (hgp : 1 ≠ p)
    (hR : ∀ u W, u.size < s.size → Rd W p u → KeepR p w W → Calls Tryd.prog 27 #[.pointer (some ⟨p, 0, none⟩)] W (ResN p W (R u))) (hRb : ∀ u n v, R u = some (n, v) → v.size ≤ u.size) :
    Calls Tryd.prog 27 #[.pointer (some ⟨p, 0, none⟩)] w (ResN p w (rowsE1 R s)) := by
  have HP := hide (fun (t : ByteArray) (W : World) (ht : t.size ≤ s.size) (hk : KeepR p w W) (hr : Rd W p t) (hs : SGr r W) => row_any r p t R W hr (by omega) hs hrp hgp (fun u V hu hv hkv => hR u V (by omega) hv (hk.trans hkv)) hRb)
  have HBD := hide (fun t n t' (he : rowE R t = some (n, t')) => row_bd hRb he)
  have HPE := hide (show rowsE1 R s = (match rowE R s with | none => none | some (n, t) => match rowsL R (t.size + 1) [n] t with | none => none | some (l, u) => some (joinedE 3 l, u)) from rfl)
  have hpw := h.lt
  have hgw : 1 < w.heap.size := World.block_lt_of_cell? _ _ hS.1
  have hrw := hS.lt
  have hb0 : Below w.heap.size w (w.alloc (.cells (ndL 0 noSet (.slice none 0 0)).toArray 27)) := (Below.refl _ _).alloc (Nat.le_refl _) _
  obtain ⟨W0, hW0⟩ : ∃ W, w.alloc (.cells (ndL 0 noSet (.slice none 0 0)).toArray 27) = W := ⟨_, rfl⟩
  have k0 : Blk W0 w.heap.size 27 (ndL 0 noSet (.slice none 0 0)) := by rw [← hW0]; exact Blk.new _ _ _
  rw [hW0] at hb0
  obtain ⟨i0, hi, hz0, hz1, hz2⟩ := infoN_parts
  have HB0 := hide (show RwS r p w.heap.size w W0 [] s (.slice none 0 0) from ⟨h.below hb0, k0, RowN.nil _ _, hS.below hb0, KeepR.of hb0⟩)
  clear h hS hb0 k0 hR hRb
  go_enter Tryd.func27, Tryd.ntmps27
  go_wp2_with fail
  rw [show w.alloc (.cells #[.int .i64 0, .int .u64 0, .int .u64 0, .int .u64 0, .int .u64 0, .slice none 0 0] 27) = W0 from hW0]
  clear hW0
  obtain ⟨z2, hz2e⟩ : ∃ q, q = w.heap.size := ⟨_, rfl⟩
  rw [← hz2e] at HB0 ⊢
  have hpz : p < z2 := by omega
  have hgz : 1 < z2 := by omega
  have hrz : r < z2 := by omega
  have HZ2 := hide hz2e
  have hwz2 : w.heap.size ≤ z2 := by omega
  clear hz2e
  refine (HP.out s _ (Nat.le_refl _) HB0.out.keep HB0.out.rd HB0.out.sg).mono ?_; rintro e w4 hr
  rcases hr.cases with ⟨hx, rfl, h3⟩ | ⟨n, t, k, x0, x1, x2, x3, A, m, cap, hx, rfl, hn, h3, h4⟩
  · go_wp2
    exact ⟨rfl, by rw [HPE.out, hx]; exact ⟨rfl, HB0.out.keep.trans h3⟩⟩
  · have hts := HBD.out s n t hx
    rw [hx] at HPE
    dsimp only at HPE
    have hz2l := HB0.out.b2.lt
    have HB4 := hide (HB0.out.step h3 h4 hpz hgp hrp)
    have hw0z : W0.heap.size ≤ w4.heap.size := h4.size
    have hbl : Below w4.heap.size w4 (w4.alloc (.cells (ndL k [x0, x1, x2, x3] (.slice A m cap)).toArray 27)) := (Below.refl _ _).alloc (Nat.le_refl _) _
    have hN4 := (NdX.keep (Q := fun b => z2 + 1 ≤ b ∧ b ≠ w4.heap.size) (fun b hb hlt => ⟨by omega, by omega⟩) (Nat.le_refl _) (fun _ _ _ _ h => h) _ _ (NdX.of _ _ hn)).low hbl
    have HB1 := hide (show RwS r p z2 w (w4.alloc (.cells (ndL k [x0, x1, x2, x3] (.slice A m cap)).toArray 27)) [n] t (.slice (some ⟨w4.heap.size, 0, none⟩) 1 1) from
      ⟨HB4.out.rd.below hbl, HB4.out.b2.below hbl, RowN.one (Blk.new _ _ _) (by omega) hN4, HB4.out.sg.below hbl, HB4.out.keep.trans (KeepR.of hbl)⟩)
    clear hbl hN4 hn h3 h4 hr hx HB4 HB0
    obtain ⟨X, hX⟩ : ∃ X, rowsL R (t.size + 1) [n] t = X := ⟨_, rfl⟩
    rw [hX] at HPE
    have HXE := hide hX
    clear hX
    go_wp2_with fail
    rw [show w4.alloc (.cells #[.int .i64 k, .int .u64 (x0 : Int), .int .u64 (x1 : Int), .int .u64 (x2 : Int), .int .u64 (x3 : Int), .slice A m cap] 27) = w4.alloc (.cells (ndL k [x0, x1, x2, x3] (.slice A m cap)).toArray 27) from rfl]
    obtain ⟨w5, hw5⟩ : ∃ W, w4.alloc (.cells (ndL k [x0, x1, x2, x3] (.slice A m cap)).toArray 27) = W := ⟨_, rfl⟩
    rw [hw5] at HB1 ⊢
    clear hw5
    go_loopw [3] (fun v wr => ∃ (l : List Nd) (t : ByteArray) (f : Nat), t.size < f ∧ l.length + t.size ≤ s.size + 1 ∧ Hid (rowsL R f l t = X) ∧ Hid (RwS r p z2 w wr l t v)) (fun _ wr => sizeR wr p)
    case atStart => exact ⟨[n], t, t.size + 1, by omega, by simp; omega, HXE, HB1⟩
    case round =>
      clear HB1 HXE hts
      obtain ⟨l, t, f, hf, hlt, HXE, HB⟩ := hrel
      obtain ⟨f, rfl⟩ : ∃ g, f = g + 1 := ⟨f - 1, by omega⟩
      have hsr := sizeR_rd HB.out.rd
      have HST := HXE.out
      rw [rowsL] at HST
      go_wp2_with fail
      refine (skip_any p t 124 _ HB.out.rd (by omega)).mono ?_; rintro e w3 ⟨rfl, h1, h2⟩
      cases hb : isB t 124 with
      | true =>
        rw [if_pos hb] at HST
        rw [show skipS t 124 = t.extract 1 t.size from if_pos hb] at h1
        have ht0 : 0 < t.size := by
          have hb2 := hb
          unfold isB at hb2
          split at hb2
          · assumption
          · cases hb2
        have hes : (t.extract 1 t.size).size + 1 = t.size := by rw [ByteArray.size_extract]; omega
        have HB3 := hide (HB.out.step h1 h2 hpz hgp hrp)
        clear h1 h2 hb HB HXE
        · go_wp2_with fail
          refine (HP.out _ _ (by omega) HB3.out.keep HB3.out.rd HB3.out.sg).mono ?_; rintro e w4 hr
          rcases hr.cases with ⟨hx, rfl, h3⟩ | ⟨n, t', k, x0, x1, x2, x3, A, m, cap, hx, rfl, hn, h3, h4⟩
          · rw [hx] at HST
            have HNX := HST
            clear hr hx
            go_wp2
            exact ⟨rfl, by rw [HPE.out, ← HNX]; exact ⟨rfl, HB3.out.keep.trans h3⟩⟩
          · have hts := HBD.out _ n t' hx
            rw [hx] at HST
            dsimp only at HST
            have HXM := hide HST
            have HB4 := hide (HB3.out.step h3 h4 hpz hgp hrp)
            have hwz := HB3.out.b2.lt
            have HN4 := hide (NdX.keep (Q := fun b => z2 + 1 ≤ b ∧ some b ≠ u3.ownBlock) (fun b hb _ => ⟨by omega, fun e => by have := (HB3.out.row.own b e.symm).2; omega⟩) (Nat.le_refl _) (fun _ _ _ _ h => h) _ _ (NdX.of _ _ hn))
            clear hr hx h3 h4 hn HST HB3
            have hbl : Below w4.heap.size w4 (w4.alloc (.cells (ndL k [x0, x1, x2, x3] (.slice A m cap)).toArray 27)) := (Below.refl _ _).alloc (Nat.le_refl _) _
            have HBa := hide (HB4.out.low hbl)
            have HNa := hide (HN4.out.low hbl)
            obtain ⟨Cs, hc1, hc2, hc3, hc4⟩ := HBa.out.row
            have HC4 := hide hc4
            have hzz := HBa.out.b2.lt
            clear hbl hc4
            go_wp2_with (at_builtin; refine wpList_append_own_at _ rfl _ _ 25 rfl (z2 + 1) 27 i0 _ 6 64 Tryd.underlying25 hi hz0 hz1 hz2 (by rfl) (by decide) u3 l.length Cs.flatten rfl hc3 ⟨w4.heap.size, 0, none⟩ 1 1 (ndL k [x0, x1, x2, x3] (.slice A m cap)) rfl rfl (new_at w4 (ndL k [x0, x1, x2, x3] (.slice A m cap))) (NdX.one HNa.out) (by unfold maxLen; omega) (by omega) hzz ?_; intro v' w6 hown1 hgrow1 _ hat1)
            have HB6 := hide (HBa.out.app HZ2.out hpz hgz hrz hc1 hc2 HC4.out HNa.out hown1 hgrow1 hat1)
            clear hown1 hgrow1 hat1 HC4 hc1 hc2 hc3 HBa HNa
            have hs6 := sizeR_rd HB6.out.rd
            go_wp2
            go_roundw
            case rel => exact ⟨l ++ [n], t', f, by omega, by rw [List.length_append]; simp; omega, HXM, HB6⟩
            case measure => rw [hs6, hsr]; omega
      | false =>
        rw [if_neg (by rw [hb]; decide)] at HST
        rw [show skipS t 124 = t from if_neg (by rw [hb]; decide)] at h1
        have HB3 := hide (HB.out.step h1 h2 hpz hgp hrp)
        have HXM := hide HST
        clear h1 h2 hb HB HXE HST
        as_aux_lemma =>
          go_wp2_with fail
          obtain ⟨A, cap, rfl, hlc, hcap, hkids⟩ := HB3.out.row.kids
          have HJ := hide (joined_any (z2 + 1) 3 A l.length cap l w3 rfl hlc hcap (by omega) hkids)
          clear hlc hcap hkids
          go_wp2_with fail
          refine HJ.out.mono ?_; rintro e w9 ⟨cs, he9, hn, hb9⟩
          have hx9 := NdX.of _ _ hn
          obtain ⟨k, x0, x1, x2, x3, A9, m9, cap9, rfl, -, -⟩ := hx9.form
          have he9 : e = .returned (.agg #[.int .i64 k, .int .u64 (x0 : Int), .int .u64 (x1 : Int), .int .u64 (x2 : Int), .int .u64 (x3 : Int), .slice A9 m9 cap9]) := he9
          subst he9
          have HB9 := hide (HB3.out.low hb9)
          have HX9 := hide hx9
          clear hn hb9 hx9 HJ
          have bf := fun i => HB9.out.b2.frozen i
          have b0 := HB9.out.b2.cell (i := 0) rfl
          have b1 := HB9.out.b2.cell (i := 1) rfl
          have b2 := HB9.out.b2.cell (i := 2) rfl
          have b3 := HB9.out.b2.cell (i := 3) rfl
          have b4 := HB9.out.b2.cell (i := 4) rfl
          have b5 := HB9.out.b2.cell (i := 5) rfl
          go_wp2
          refine bodyPost_ret (results_cell_row rfl _ _ z2 27 (ndL k [x0, x1, x2, x3] (.slice A9 m9 cap9)).toArray (0, 0) _ rfl (nd_put HB9.out.b2 k x0 x1 x2 x3 (.slice A9 m9 cap9)) Tryd.underlying27 rfl (by kernel_rfl)) rfl ?_
          have hk := nd_keep w9 z2 k x0 x1 x2 x3 (.slice A9 m9 cap9)
          rw [HPE.out, ← HXM.out]
          exact ⟨_, rfl, NdX.at (fun b hb => by omega) _ _ (HX9.out.keepR (fun b hb => by omega) hk), HB9.out.rd.keepZ hk (by omega), HB9.out.keep.own hk (by omega)⟩
theorem rows_any (r p : Nat) (hrp : r ≠ p) (hgp : 1 ≠ p) : ∀ (f : Nat) (s : ByteArray) (w : World), s.size < f → Rd w p s → s.size ≤ 100000 → SGr r w →
    Calls Tryd.prog 27 #[.pointer (some ⟨p, 0, none⟩)] w (ResN p w (rowsE f s))
  | 0, _, _, hf, _, _, _ => absurd hf (by omega)
  | f + 1, s, w, hf, h, hm, hS => by
    rw [rowsE]
    exact rows_step r p s (rowsE f) w h hm hS hrp hgp (fun u W hu hr hk => rows_any r p hrp hgp f u W (by omega) hr (by omega) (hS.keepR hk hgp hrp)) (rowsE_bd f)
end Go.Proofs.YtfamoikmfbpigaaDoor
namespace Go.Proofs.YtfamoikmfbpigaaDoor
open Go.RowKit

def parseP (s : ByteArray) : Nd × Nat :=
  if 200 < s.size then (.mk 0 noSet [], 3)
  else match rowsE (s.size + 1) s with
    | none => (.mk 0 noSet [], 10)
    | some (n, t) => if t.size = 0 then (n, 0) else (.mk 0 noSet [], 10)
set_option maxRecDepth 100000 in
theorem catch_pan (z y : Nat) (k0 : Int) (a b c d : Nat) (v0 : Value) (n0 : Int) (older : List PanicEntry) (w : World) (hz : Blk w z 27 (ndL k0 [a, b, c, d] v0)) (hy : Blk w y 28 [.int .i64 n0]) (hzy : z ≠ y) :
    CallsD Tryd.prog 26 #[.pointer (some ⟨z, 0, none⟩), .pointer (some ⟨y, 0, none⟩)] (.panicking ({ v := .iface 57 (.agg #[]), recovered := false } :: older)) w fun e u' w' =>
      e = .returned (.tuple #[]) ∧ u' = .panicking ({ v := .iface 57 (.agg #[]), recovered := true } :: older) ∧ w' = (ndSet w z 0 0 0 0 0 (.slice none 0 0)).setCell ⟨y, 0, none⟩ (.int .i64 10) := by
  have r0 := hz.cell (i := 0) rfl
  have rf := fun i => hz.frozen i
  have r1 := hz.cell (i := 1) rfl
  have r2 := hz.cell (i := 2) rfl
  have r3 := hz.cell (i := 3) rfl
  have r4 := hz.cell (i := 4) rfl
  have r5 := hz.cell (i := 5) rfl
  have s0 := hy.cell (i := 0) rfl
  have hyz := Ne.symm hzy
  have sf := hy.frozen 0
  refine callsD_of_wpS Tryd.func26 rfl fun c₀ cs hu => ?_
  apply wpS_seq
  apply wpS_region
  simp [wpOpsS, go_sem, recoverD, hu, Tryd.ntmps26, Exit.thenS]
  apply wpS_seq
  apply wpS_region
  simp [wpOpsS, go_sem, Exit.thenS]
  refine wpS_cond (t := true) (by simp [Act.eval, Array.replicate]) ?_
  simp only [if_true]
  apply wpS_seq
  apply wpS_region
  simp [wpOpsS, go_sem, Exit.thenS]
  apply wpS_region
  simp [wpOpsS, go_sem, bodyPostS, results, r0, r1, r2, r3, r4, r5, rf, s0, sf, hzy, hyz, Tryd.results26, ndSet]
theorem catch_none (z y : Nat) (w : World) :
    CallsD Tryd.prog 26 #[.pointer (some ⟨z, 0, none⟩), .pointer (some ⟨y, 0, none⟩)] .returning w fun e u' w' => e = .returned (.tuple #[]) ∧ u' = .returning ∧ w' = w := by
  refine callsD_of_wpS Tryd.func26 rfl fun c₀ cs hu => ?_
  apply wpS_seq
  apply wpS_region
  simp [wpOpsS, go_sem, recoverD, hu, Tryd.ntmps26, Exit.thenS]
  apply wpS_seq
  apply wpS_region
  simp [wpOpsS, go_sem, Exit.thenS]
  refine wpS_cond (t := false) (by simp [Act.eval, Array.replicate]) ?_
  simp only [Bool.false_eq_true, if_false]
  refine wpS_of_wp (wp_skip ?_)
  cases c₀
  simp_all [bodyPostS, results, Tryd.results26]
/-- What Parse's three boxes are. -/
def PaW (w W : World) (s : ByteArray) : Prop := Blk W w.heap.size 27 (ndL 0 noSet (.slice none 0 0)) ∧ Blk W (w.heap.size + 1) 28 [.int .i64 0] ∧ Rd W (w.heap.size + 1 + 1) s ∧ Below w.heap.size w W
theorem pa_new (w : World) (s : ByteArray) : PaW w (((w.alloc (.cells (ndL 0 noSet (.slice none 0 0)).toArray 27)).alloc (.cells [.int .i64 0].toArray 28)).alloc (.cells [.string s].toArray 60)) s := by
  have e1 : (w.alloc (.cells (ndL 0 noSet (.slice none 0 0)).toArray 27)).heap.size = w.heap.size + 1 := by simp
  have e2 : ((w.alloc (.cells (ndL 0 noSet (.slice none 0 0)).toArray 27)).alloc (.cells [.int .i64 0].toArray 28)).heap.size = w.heap.size + 1 + 1 := by simp
  have b1 : Below w.heap.size w (w.alloc (.cells (ndL 0 noSet (.slice none 0 0)).toArray 27)) := (Below.refl _ _).alloc (Nat.le_refl _) _
  obtain ⟨W1, h1⟩ : ∃ W, w.alloc (.cells (ndL 0 noSet (.slice none 0 0)).toArray 27) = W := ⟨_, rfl⟩
  have k1 : Blk W1 w.heap.size 27 (ndL 0 noSet (.slice none 0 0)) := by rw [← h1]; exact Blk.new _ _ _
  rw [h1] at e1 e2 b1 ⊢
  have b2 : Below W1.heap.size W1 (W1.alloc (.cells [.int .i64 0].toArray 28)) := (Below.refl _ _).alloc (Nat.le_refl _) _
  obtain ⟨W2, h2⟩ : ∃ W, W1.alloc (.cells [.int .i64 0].toArray 28) = W := ⟨_, rfl⟩
  have k2 : Blk W2 (w.heap.size + 1) 28 [.int .i64 0] := by rw [← h2, ← e1]; exact Blk.new _ _ _
  rw [h2] at e2 b2 ⊢
  have b3 : Below W2.heap.size W2 (W2.alloc (.cells [.string s].toArray 60)) := (Below.refl _ _).alloc (Nat.le_refl _) _
  refine ⟨(k1.below b2).below b3, k2.below b3, ?_, ((b1.trans (b2.mono b1.size)).trans (b3.mono (by omega)))⟩
  rw [← e2]
  exact Blk.new _ _ _
theorem results_pa (tmps : Array Value) (w : World) (z y : Nat) (cs : List Value) (n : Int) (hp : tmps.getD 2 undef = .pointer (some ⟨z, 0, none⟩)) (hq : tmps.getD 3 undef = .pointer (some ⟨y, 0, none⟩)) (hz : Blk w z 27 cs) (h6 : cs.length = 6) (hy : Blk w y 28 [.int .i64 n]) :
    (results Tryd.f10 tmps).run Tryd.prog w = .ok (.tuple #[.agg cs.toArray, .int .i64 n]) w := by
  have hp' : tmps[2]?.getD undef = .pointer (some ⟨z, 0, none⟩) := by simpa using hp
  have hq' : tmps[3]?.getD undef = .pointer (some ⟨y, 0, none⟩) := by simpa using hq
  have hl1 := run_loadVar_row w z 27 27 cs.toArray (0, 0) _ hz Tryd.underlying27 rfl (by
    have : (Tryd.prog.info? 27).map (·.size) = some 6 := by kernel_rfl
    rw [this]; simp [h6])
  have hc := hy.cell (i := 0) rfl
  have hl2 : (loadVar 28 ⟨y, 0, none⟩).run Tryd.prog w = .ok (.int .i64 n) w := by simp [go_sem, hc]
  simp [results, Tryd.results10, hp', hq', asAddr, hl1, hl2]
set_option maxHeartbeats 2000000 in
set_option maxRecDepth 100000 in
theorem parse_long (s : ByteArray) (w : World) (hm : 200 < s.size) (hM : s.size ≤ 1000000) :
    Calls Tryd.prog 10 #[.string s] w fun e w' => ∃ cs, e = .returned (.tuple #[.agg cs.toArray, .int .i64 ((parseP s).2 : Int)]) ∧ NdAt w.heap.size w' (parseP s).1 cs ∧ Below w.heap.size w w' := by
  have HP := hide (show parseP s = (.mk 0 noSet [], 3) by unfold parseP; rw [if_pos hm])
  have q1 : (200 : Int) < (s.size : Int) := by omega
  have e1 : (w.alloc (.cells (ndL 0 noSet (.slice none 0 0)).toArray 27)).heap.size = w.heap.size + 1 := by simp
  have b1 : Below w.heap.size w (w.alloc (.cells (ndL 0 noSet (.slice none 0 0)).toArray 27)) := (Below.refl _ _).alloc (Nat.le_refl _) _
  obtain ⟨W1, h1⟩ : ∃ W, w.alloc (.cells (ndL 0 noSet (.slice none 0 0)).toArray 27) = W := ⟨_, rfl⟩
  have k1 : Blk W1 w.heap.size 27 (ndL 0 noSet (.slice none 0 0)) := by rw [← h1]; exact Blk.new _ _ _
  rw [h1] at e1 b1
  have b2 : Below W1.heap.size W1 (W1.alloc (.cells [.int .i64 3].toArray 28)) := (Below.refl _ _).alloc (Nat.le_refl _) _
  obtain ⟨W2, h2⟩ : ∃ W, W1.alloc (.cells [.int .i64 3].toArray 28) = W := ⟨_, rfl⟩
  have k2 : Blk W2 (w.heap.size + 1) 28 [.int .i64 3] := by rw [← h2, ← e1]; exact Blk.new _ _ _
  rw [h2] at b2
  have K1 := hide (k1.below b2)
  have K2 := hide k2
  have KB := hide (b1.trans (b2.mono b1.size))
  have hmf : ∀ (fn : Fn) (first cap : Array Value) (w : World), (Instr.makeFunc fn first cap).run Tryd.prog w = .ok (.func fn first cap) w := fun _ _ _ _ => rfl
  clear e1 b1 b2 k1 k2
  have H1 := hide h1
  have H2 := hide h2
  clear h1 h2
  go_enter_defers Tryd.func10, Tryd.ntmps10
  go_wp2
  rw [show w.alloc (.cells #[.int .i64 0, .int .u64 0, .int .u64 0, .int .u64 0, .int .u64 0, .slice none 0 0] 27) = W1 from H1.out]
  rw [show W1.alloc (.cells #[.int .i64 3] 28) = W2 from H2.out]
  refine ⟨_, results_pa _ _ w.heap.size (w.heap.size + 1) _ 3 rfl rfl K1.out rfl K2.out, _, by rw [HP.out]; rfl, by rw [HP.out]; exact NdAt.leaf _ _ 0 noSet_w, KB.out⟩
/-- A call that ends at the door by the panic. -/
theorem door_pan (z y : Nat) (k0 : Int) (a b c d : Nat) (v0 : Value) (n0 : Int) (tmps : Array Value) (w w0 : World) (s : ByteArray) (hP : parseP s = (.mk 0 noSet [], 10)) (hp : tmps.getD 2 undef = .pointer (some ⟨z, 0, none⟩)) (hq : tmps.getD 3 undef = .pointer (some ⟨y, 0, none⟩)) (hz : Blk w z 27 (ndL k0 [a, b, c, d] v0)) (hy : Blk w y 28 [.int .i64 n0]) (hzy : z ≠ y)
    (hw : Below w0.heap.size w0 w) (h1 : w0.heap.size ≤ z) (h2 : w0.heap.size ≤ y) :
    bodyPostD Tryd.prog Tryd.f10 (fun e w' => ∃ cs, e = .returned (.tuple #[.agg cs.toArray, .int .i64 ((parseP s).2 : Int)]) ∧ NdAt w0.heap.size w' (parseP s).1 cs ∧ Below w0.heap.size w0 w')
      (.panic [{ v := .iface 57 (.agg #[]), recovered := false }]) { tmps := tmps, defers := [{ target := .fn (.func 26) #[.pointer (some ⟨z, 0, none⟩), .pointer (some ⟨y, 0, none⟩)], args := #[] }] } w := by
  refine leaves_cons (f := 26) (args := #[.pointer (some ⟨z, 0, none⟩), .pointer (some ⟨y, 0, none⟩)]) (by simp) (by simp [go_sem]) ?_
  refine (catch_pan z y k0 a b c d v0 n0 [] w hz hy hzy).mono ?_
  rintro e u' w'' ⟨rfl, rfl, rfl⟩
  have k1 : Blk ((ndSet w z 0 0 0 0 0 (.slice none 0 0)).setCell ⟨y, 0, none⟩ (.int .i64 10)) z 27 (ndL 0 [0, 0, 0, 0] (.slice none 0 0)) := (KeepR.set y _ _).blk (nd_putA hz 0 0 0 0 0 (.slice none 0 0)) hzy
  have k2 : Blk ((ndSet w z 0 0 0 0 0 (.slice none 0 0)).setCell ⟨y, 0, none⟩ (.int .i64 10)) y 28 [.int .i64 10] := ((nd_keep w z 0 0 0 0 0 (.slice none 0 0)).blk hy (Ne.symm hzy)).set 0 _
  exact ⟨_, results_pa tmps _ z y _ 10 hp hq k1 rfl k2, _, by rw [hP]; rfl, by rw [hP]; exact NdAt.leaf _ _ 0 noSet_w, BelowKeep (BelowKeep hw (nd_keep w z 0 0 0 0 0 (.slice none 0 0)) h1) (KeepR.set y _ _) h2⟩
theorem door_ok (z y : Nat) (n : Nd) (cs : List Value) (B : Nat) (tmps : Array Value) (w w0 : World) (s : ByteArray) (hP : parseP s = (n, 0)) (hp : tmps.getD 2 undef = .pointer (some ⟨z, 0, none⟩)) (hq : tmps.getD 3 undef = .pointer (some ⟨y, 0, none⟩)) (hz : Blk w z 27 cs) (hn : NdAt B w n cs) (hB : w0.heap.size ≤ B) (hy : Blk w y 28 [.int .i64 0])
    (hw : Below w0.heap.size w0 w) :
    bodyPostD Tryd.prog Tryd.f10 (fun e w' => ∃ cs, e = .returned (.tuple #[.agg cs.toArray, .int .i64 ((parseP s).2 : Int)]) ∧ NdAt w0.heap.size w' (parseP s).1 cs ∧ Below w0.heap.size w0 w')
      .ret { tmps := tmps, defers := [{ target := .fn (.func 26) #[.pointer (some ⟨z, 0, none⟩), .pointer (some ⟨y, 0, none⟩)], args := #[] }] } w := by
  refine leaves_cons (f := 26) (args := #[.pointer (some ⟨z, 0, none⟩), .pointer (some ⟨y, 0, none⟩)]) (by simp) (by simp [go_sem]) ?_
  refine (catch_none z y w).mono ?_
  rintro e u' w'' ⟨rfl, rfl, rfl⟩
  exact ⟨_, results_pa tmps _ z y _ 0 hp hq hz hn.len hy, cs, by rw [hP]; rfl, by rw [hP]; exact hn.low hB, hw⟩
set_option maxHeartbeats 2000000 in
set_option maxRecDepth 100000 in
theorem parse_bad (r : Nat) (s : ByteArray) (w : World) (hm : s.size ≤ 200) (hS : SGr r w) (hn : rowsE (s.size + 1) s = none) :
    Calls Tryd.prog 10 #[.string s] w fun e w' => ∃ cs, e = .returned (.tuple #[.agg cs.toArray, .int .i64 ((parseP s).2 : Int)]) ∧ NdAt w.heap.size w' (parseP s).1 cs ∧ Below w.heap.size w w' := by
  have HP := hide (show parseP s = (.mk 0 noSet [], 10) by unfold parseP; rw [if_neg (by omega), hn])
  have q1 : ¬ (200 : Int) < (s.size : Int) := by omega
  have hmf : ∀ (fn : Fn) (first cap : Array Value) (w : World), (Instr.makeFunc fn first cap).run Tryd.prog w = .ok (.func fn first cap) w := fun _ _ _ _ => rfl
  have hgw : 1 < w.heap.size := World.block_lt_of_cell? _ _ hS.1
  have hrw := hS.lt
  have HW := hide (pa_new w s)
  have HSG := hide (hS.below HW.out.2.2.2)
  have HR := rows_any r (w.heap.size + 1 + 1) (by omega) (by omega) (s.size + 1) s _ (by omega) HW.out.2.2.1 (by omega) HSG.out
  rw [hn] at HR
  have HR := hide HR
  clear hS hn
  go_enter_defers Tryd.func10, Tryd.ntmps10
  go_wp2_with fail
  refine HR.out.mono ?_; rintro e w4 ⟨rfl, h4⟩
  go_wp2
  exact door_pan w.heap.size (w.heap.size + 1) 0 0 0 0 0 (.slice none 0 0) 0 _ w4 w s HP.out rfl rfl (h4.blk HW.out.1 (by omega)) (h4.blk HW.out.2.1 (by omega)) (by omega) (BelowKeep HW.out.2.2.2 h4 (by omega)) (by omega) (by omega)
set_option maxHeartbeats 2000000 in
set_option maxRecDepth 100000 in
theorem parse_some (r : Nat) (s : ByteArray) (w : World) (hm : s.size ≤ 200) (hS : SGr r w) (n : Nd) (t : ByteArray) (hn : rowsE (s.size + 1) s = some (n, t)) :
    Calls Tryd.prog 10 #[.string s] w fun e w' => ∃ cs, e = .returned (.tuple #[.agg cs.toArray, .int .i64 ((parseP s).2 : Int)]) ∧ NdAt w.heap.size w' (parseP s).1 cs ∧ Below w.heap.size w w' := by
  have HP := hide (show parseP s = if t.size = 0 then (n, 0) else (.mk 0 noSet [], 10) by unfold parseP; rw [if_neg (by omega), hn])
  have q1 : ¬ (200 : Int) < (s.size : Int) := by omega
  have hmf : ∀ (fn : Fn) (first cap : Array Value) (w : World), (Instr.makeFunc fn first cap).run Tryd.prog w = .ok (.func fn first cap) w := fun _ _ _ _ => rfl
  have hgw : 1 < w.heap.size := World.block_lt_of_cell? _ _ hS.1
  have hrw := hS.lt
  have HW := hide (pa_new w s)
  have HSG := hide (hS.below HW.out.2.2.2)
  have HR := rows_any r (w.heap.size + 1 + 1) (by omega) (by omega) (s.size + 1) s _ (by omega) HW.out.2.2.1 (by omega) HSG.out
  rw [hn] at HR
  have HR := hide HR
  clear hS hn
  go_enter_defers Tryd.func10, Tryd.ntmps10
  go_wp2_with fail
  refine HR.out.mono ?_; rintro e w4 hr
  rcases hr.cases with ⟨hx, -⟩ | ⟨n', t', k, x0, x1, x2, x3, A, m, cap, hx, rfl, hn, h3, h4⟩
  · cases hx
  · injection hx with hx; injection hx with e1 e2; subst e1 e2
    have K0 := hide (h4.blk HW.out.1 (by omega))
    have K1 := hide (h4.blk HW.out.2.1 (by omega))
    have KB := hide (BelowKeep HW.out.2.2.2 h4 (by omega))
    have HN := hide hn
    have H3 := hide h3
    have hz4 := HW.out.2.2.1.lt
    have hz5 : w.heap.size + 1 + 1 < w4.heap.size := h3.lt
    obtain ⟨B, hB⟩ : ∃ B, (((w.alloc (.cells (ndL 0 noSet (.slice none 0 0)).toArray 27)).alloc (.cells [.int .i64 0].toArray 28)).alloc (.cells [.string s].toArray 60)).heap.size = B := ⟨_, rfl⟩
    rw [hB] at HN hz4
    clear hr h3 h4 hn HW HSG HR hB
    have a0 := K0.out.cell (i := 0) rfl
    have a1 := K0.out.cell (i := 1) rfl
    have a2 := K0.out.cell (i := 2) rfl
    have a3 := K0.out.cell (i := 3) rfl
    have a4 := K0.out.cell (i := 4) rfl
    have a5 := K0.out.cell (i := 5) rfl
    have af := fun i => K0.out.frozen i
    have r0 := H3.out.cell (i := 0) rfl
    have s0 := K1.out.cell (i := 0) rfl
    have sf := K1.out.frozen 0
    have hk := nd_keep w4 w.heap.size k x0 x1 x2 x3 (.slice A m cap)
    by_cases ht : t.size = 0
    · rw [if_pos ht] at HP
      obtain rfl := is_emp ht
      clear ht
      go_wp2
      have k1 := nd_putA K0.out k x0 x1 x2 x3 (.slice A m cap)
      have k2 := nd_putA k1 k x0 x1 x2 x3 (.slice A m cap)
      have hk2 := nd_keep (ndSet w4 w.heap.size k x0 x1 x2 x3 (.slice A m cap)) w.heap.size k x0 x1 x2 x3 (.slice A m cap)
      have y2 := hk2.blk (hk.blk K1.out (by omega)) (by omega)
      exact door_ok w.heap.size (w.heap.size + 1) n _ B _ _ w s HP.out rfl rfl ((KeepR.set (w.heap.size + 1) _ _).blk k2 (by omega)) (((HN.out.keepZ (by omega) hk).keepZ (by omega) hk2).keepZ (by omega) (KeepR.set (w.heap.size + 1) _ _)) (by omega) (y2.set 0 _) (BelowKeep (BelowKeep (BelowKeep KB.out hk (Nat.le_refl _)) hk2 (Nat.le_refl _)) (KeepR.set (w.heap.size + 1) _ _) (by omega))
    · rw [if_neg ht] at HP
      have he := ne_emp ht
      clear ht
      go_wp2
      exact door_pan w.heap.size (w.heap.size + 1) k x0 x1 x2 x3 (.slice A m cap) 0 _ _ w s HP.out rfl rfl (nd_putA K0.out k x0 x1 x2 x3 (.slice A m cap)) (hk.blk K1.out (by omega)) (by omega) (BelowKeep KB.out hk (Nat.le_refl _)) (Nat.le_refl _) (by omega)
theorem parse_any (r : Nat) (s : ByteArray) (w : World) (hM : s.size ≤ 1000000) (hS : SGr r w) :
    Calls Tryd.prog 10 #[.string s] w fun e w' => ∃ cs, e = .returned (.tuple #[.agg cs.toArray, .int .i64 ((parseP s).2 : Int)]) ∧ NdAt w.heap.size w' (parseP s).1 cs ∧ Below w.heap.size w w' := by
  by_cases hm : 200 < s.size
  · exact parse_long s w hm hM
  · cases hn : rowsE (s.size + 1) s with
    | none => exact parse_bad r s w (by omega) hS hn
    | some x => obtain ⟨n, t⟩ := x; exact parse_some r s w (by omega) hS n t hn
end Go.Proofs.YtfamoikmfbpigaaDoor
namespace Go.Proofs.YtfamoikmfbpigaaDoor
open Go.RowKit

theorem ret_byte (x : UInt8) (n : Int) (h : n = (x.toNat : Int)) : Ending.returned (.int .i64 (wrap64 (x.toNat : Int))) = .returned (.int .i64 n) := by
  have := x.toNat_lt
  rw [h, show wrap64 (x.toNat : Int) = (x.toNat : Int) by unfold wrap64; omega]
theorem ret_i64 {a b : Int} (h : a = b) : Ending.returned (.int .i64 a) = .returned (.int .i64 b) := by rw [h]
theorem ret_bool {a b : Bool} (h : a = b) : Ending.returned (.bool a) = .returned (.bool b) := by rw [h]
def atI (s : ByteArray) (i : Nat) : Int := if h : i < s.size then (s[i].toNat : Int) else -1
set_option maxRecDepth 100000 in
theorem rat_any (s : ByteArray) (i : Nat) (w : World) (hs : s.size ≤ 1000000) : Calls Tryd.prog 40 #[.string s, .int .i64 (i : Int)] w fun e w' => e = .returned (.int .i64 (atI s i)) ∧ w = w' := by
  by_cases h : i < s.size
  · have HN := hide (show atI s i = (s[i].toNat : Int) from dif_pos h)
    have q1 : ¬ (s.size : Int) ≤ (i : Int) := by omega
    go_enter Tryd.func40, Tryd.ntmps40
    go_wp2
    go_ret
    exact ⟨(ret_byte _ _ HN.out :), rfl⟩
  · have HN := hide (show atI s i = -1 from dif_neg h)
    have q1 : (s.size : Int) ≤ (i : Int) := by omega
    go_enter Tryd.func40, Tryd.ntmps40
    go_wp2
    go_ret
    exact ⟨ret_i64 HN.out.symm, rfl⟩
def spN (i : Nat) : Nat := (spcL.data.toList[i]?.getD 0).toNat
theorem spec_any : ∀ b, b < 256 → specE b = (List.range 12).any (fun i => spN i == b) := by decide +kernel
theorem spec_yes {b i : Nat} (hb : b < 256) (h : i < 12) (h2 : spN i = b) : specE b = true := by
  rw [spec_any b hb, List.any_eq_true]
  exact ⟨i, List.mem_range.2 h, by simpa using h2⟩
theorem spec_no {b : Nat} (hb : b < 256) (h : ∀ i, i < 12 → spN i ≠ b) : specE b = false := by
  rw [spec_any b hb, List.any_eq_false]
  intro i hi
  simpa using h i (List.mem_range.1 hi)
theorem spN_at (L : ByteArray) (h : spcL = L) : L.size = 12 ∧ ∀ (j : Nat) (hj : j < L.size), L[j].toNat = spN j := by
  subst h
  refine ⟨rfl, fun j hj => ?_⟩
  have h12 : j < 12 := hj
  unfold spN
  rw [List.getElem?_eq_getElem (show j < spcL.data.toList.length from hj)]
  rfl
set_option maxRecDepth 100000 in
set_option maxHeartbeats 4000000 in
theorem rspecial_any (b : Nat) (hb : b < 256) (w : World) : Calls Tryd.prog 63 #[.int .u8 (b : Int)] w fun e w' => e = .returned (.bool (specE b)) ∧ w = w' := by
  go_enter Tryd.func63, Tryd.ntmps63
  go_wp2
  obtain ⟨L, hL⟩ : ∃ L, (⟨#[40, 41, 91, 93, 124, 42, 43, 63, 46, 92, 45, 94]⟩ : ByteArray) = L := ⟨_, rfl⟩
  have HA := spN_at L hL
  rw [hL]
  clear hL
  obtain ⟨hL12, hLj⟩ := HA
  have HLJ := hide hLj
  clear hLj
  go_loopw [4] (fun iv wr => ∃ j : Nat, iv = .int .i64 (j : Int) ∧ j ≤ 12 ∧ wr = w ∧ Hid (∀ i, i < j → spN i ≠ b)) (fun iv _ => 12 - (intOf iv).toNat)
  case atStart => exact ⟨0, rfl, by omega, rfl, hide (fun i h => absurd h (by omega))⟩
  case round =>
    obtain ⟨j, rfl, hj, rfl, HJ⟩ := hrel
    have hLs : (L.size : Int) = 12 := by omega
    by_cases hlt : j < 12
    · have h1 : (j : Int) < (L.size : Int) := by omega
      have hjl : j < L.size := by omega
      have HV := HLJ.out j hjl
      obtain ⟨x, hx⟩ : ∃ x, L[j].toNat = x := ⟨_, rfl⟩
      by_cases hq : spN j = b
      · have HR := hide (spec_yes hb hlt hq)
        have q1 : ((L[j].toNat : Int) == (b : Int)) = true := by simp; omega
        clear hq HV hx
        go_wp2
        go_ret
        exact ⟨ret_bool HR.out.symm, rfl⟩
      · have q1 : ((L[j].toNat : Int) == (b : Int)) = false := by simp; omega
        have HN := hide (show ∀ i, i < j + 1 → spN i ≠ b from fun i hi => by
          rcases Nat.lt_or_ge i j with h | h
          · exact HJ.out i h
          · obtain rfl : i = j := by omega
            exact hq)
        clear hq HV hx
        go_wp2
        go_roundw
        case rel => exact ⟨j + 1, by go_num, by omega, by first | rfl | trivial, HN⟩
        case measure => simp [intOf]; omega
    · obtain rfl : j = 12 := by omega
      have h1 : ¬ (12 : Int) < (L.size : Int) := by omega
      have HR := hide (spec_no hb HJ.out)
      go_wp2
      go_ret
      exact ⟨ret_bool HR.out.symm, rfl⟩
def digR (b : Nat) : Int := match digE b with | some d => (d : Int) | none => -1
theorem digR_eq : ∀ b, b < 256 → digR b = if 48 ≤ b ∧ b ≤ 57 then ((b - 48 : Nat) : Int) else if 97 ≤ b ∧ b ≤ 102 then ((b - 87 : Nat) : Int) else if 65 ≤ b ∧ b ≤ 70 then ((b - 55 : Nat) : Int) else -1 := by decide +kernel
set_option maxRecDepth 100000 in
set_option maxHeartbeats 1000000 in
theorem rdigit_any (b : Nat) (hb : b < 256) (w : World) : Calls Tryd.prog 64 #[.int .u8 (b : Int)] w fun e w' => e = .returned (.int .i64 (digR b)) ∧ w = w' := by
  have HD := hide (digR_eq b hb)
  by_cases h1 : 48 ≤ b ∧ b ≤ 57
  · have HR := hide (show digR b = ((b - 48 : Nat) : Int) by rw [HD.out, if_pos h1])
    have q1 : (48 : Int) ≤ (b : Int) := by omega
    have q2 : (b : Int) ≤ 57 := by omega
    go_enter Tryd.func64, Tryd.ntmps64
    go_wp2
    go_ret
    exact ⟨ret_i64 (by rw [HR.out]; omega), rfl⟩
  by_cases h2 : 97 ≤ b ∧ b ≤ 102
  · have HR := hide (show digR b = ((b - 87 : Nat) : Int) by rw [HD.out, if_neg h1, if_pos h2])
    have q1 : (48 : Int) ≤ (b : Int) := by omega
    have q2 : ¬ (b : Int) ≤ 57 := by omega
    have q3 : (97 : Int) ≤ (b : Int) := by omega
    have q4 : (b : Int) ≤ 102 := by omega
    go_enter Tryd.func64, Tryd.ntmps64
    go_wp2
    go_ret
    exact ⟨ret_i64 (by rw [HR.out]; omega), rfl⟩
  by_cases h3 : 65 ≤ b ∧ b ≤ 70
  · have HR := hide (show digR b = ((b - 55 : Nat) : Int) by rw [HD.out, if_neg h1, if_neg h2, if_pos h3])
    have q1 : (48 : Int) ≤ (b : Int) := by omega
    have q2 : ¬ (b : Int) ≤ 57 := by omega
    have q3 : ¬ (97 : Int) ≤ (b : Int) := by omega
    have q5 : (65 : Int) ≤ (b : Int) := by omega
    have q4 : (b : Int) ≤ 70 := by omega
    go_enter Tryd.func64, Tryd.ntmps64
    go_wp2
    go_ret
    exact ⟨ret_i64 (by rw [HR.out]; omega), rfl⟩
  have HR := hide (show digR b = -1 by rw [HD.out, if_neg h1, if_neg h2, if_neg h3])
  clear HD
  have hc : b < 48 ∨ (57 < b ∧ b < 65) ∨ (70 < b ∧ b < 97) ∨ 102 < b := by omega
  rcases hc with hc | hc | hc | hc
  all_goals (
    try have q1 : (48 : Int) ≤ (b : Int) := by omega
    try have q1 : ¬ (48 : Int) ≤ (b : Int) := by omega
    try have q2 : ¬ (b : Int) ≤ 57 := by omega
    try have q3 : (97 : Int) ≤ (b : Int) := by omega
    try have q3 : ¬ (97 : Int) ≤ (b : Int) := by omega
    try have q4 : ¬ (b : Int) ≤ 102 := by omega
    try have q5 : (65 : Int) ≤ (b : Int) := by omega
    try have q5 : ¬ (65 : Int) ≤ (b : Int) := by omega
    try have q6 : ¬ (b : Int) ≤ 70 := by omega
    clear h1 h2 h3 hc
    go_enter Tryd.func64, Tryd.ntmps64
    go_wp2
    go_ret
    exact ⟨ret_i64 HR.out.symm, rfl⟩)
def sgnI (x : Int) : Nat := if x = 42 then 4 else if x = 43 then 5 else if x = 63 then 6 else 0
set_option maxRecDepth 100000 in
theorem rsign_any (x : Int) (w : World) : Calls Tryd.prog 43 #[.int .i64 x] w fun e w' => e = .returned (.int .i64 (sgnI x : Int)) ∧ w = w' := by
  by_cases h1 : x = 42
  · subst h1
    go_enter Tryd.func43, Tryd.ntmps43
    go_wp2
    go_ret
    exact ⟨rfl, rfl⟩
  by_cases h2 : x = 43
  · subst h2
    go_enter Tryd.func43, Tryd.ntmps43
    go_wp2
    go_ret
    exact ⟨rfl, rfl⟩
  by_cases h3 : x = 63
  · subst h3
    go_enter Tryd.func43, Tryd.ntmps43
    go_wp2
    go_ret
    exact ⟨rfl, rfl⟩
  have HR := hide (show sgnI x = 0 by unfold sgnI; rw [if_neg h1, if_neg h2, if_neg h3])
  have q1 : (x == 42) = false := by simpa using h1
  have q2 : (x == 43) = false := by simpa using h2
  have q3 : (x == 63) = false := by simpa using h3
  clear h1 h2 h3
  go_enter Tryd.func43, Tryd.ntmps43
  go_wp2
  go_ret
  exact ⟨ret_i64 (by rw [HR.out]; rfl), rfl⟩
end Go.Proofs.YtfamoikmfbpigaaDoor
namespace Go.Proofs.YtfamoikmfbpigaaDoor
open Go.RowKit

def hexB (d : Nat) : UInt8 := hexL.data.toList[d]?.getD 0
/-- A byte as it is shown. -/
def shownE (b : Nat) : List UInt8 :=
  if b = 10 then [92, 110] else if b = 9 then [92, 116] else if b = 13 then [92, 114]
  else if specE b = true then [92, UInt8.ofNat b] else if 32 < b ∧ b < 127 then [UInt8.ofNat b] else [92, 120, hexB (b / 16), hexB (b % 16)]
def StrP (l : List UInt8) (w : World) (e : Ending) (w' : World) : Prop := e = .returned (.string ⟨l.toArray⟩) ∧ Below w.heap.size w w'
theorem StrP.mk {l : List UInt8} {s : ByteArray} {w w' : World} {e : Ending} (h : s = ⟨l.toArray⟩) (he : e = .returned (.string s)) (hb : Below w.heap.size w w') : StrP l w e w' := ⟨by rw [← h]; exact he, hb⟩
theorem conv_own (xs : List Int) (n : Nat) (hn : xs.length = n) (W : World) (g : Nat) (h : Blk W g 5 (xs.map (Value.int .u8))) : (convert 47 9 (.slice (some ⟨g, 0, none⟩) n n)).run Tryd.prog W = .ok (.string (strOfNums xs)) W := by
  refine run_convert_bytes_arg (P := Tryd.prog) _ 47 5 Tryd.underlying47 Tryd.underlying5 g 0 n n xs hn (fun i hi => ?_) 9 Tryd.underlying9
  rw [Nat.zero_add]
  exact h.cell (by simp [List.getD, List.getElem?_eq_getElem (show i < xs.length by omega)])
theorem cv1 (w : World) (a : Int) : (convert 47 9 (.slice (some ⟨w.heap.size, 0, none⟩) 1 1)).run Tryd.prog (w.alloc (.cells #[.int .u8 a] 5)) = .ok (.string (strOfNums [a])) (w.alloc (.cells #[.int .u8 a] 5)) := conv_own [a] 1 rfl _ _ (Blk.new w 5 [.int .u8 a])
theorem cv2 (w : World) (a b : Int) : (convert 47 9 (.slice (some ⟨w.heap.size, 0, none⟩) 2 2)).run Tryd.prog (w.alloc (.cells #[.int .u8 a, .int .u8 b] 5)) = .ok (.string (strOfNums [a, b])) (w.alloc (.cells #[.int .u8 a, .int .u8 b] 5)) := conv_own [a, b] 2 rfl _ _ (Blk.new w 5 [.int .u8 a, .int .u8 b])
theorem cv4 (w : World) (a b c d : Int) : (convert 47 9 (.slice (some ⟨w.heap.size, 0, none⟩) 4 4)).run Tryd.prog ((w.alloc (.cells #[.int .u8 a, .int .u8 b, .int .u8 c, .int .u8 d] 5)).drew) = .ok (.string (strOfNums [a, b, c, d])) ((w.alloc (.cells #[.int .u8 a, .int .u8 b, .int .u8 c, .int .u8 d] 5)).drew) := conv_own [a, b, c, d] 4 rfl _ _ (show Blk (w.alloc _).drew _ _ _ from Blk.new w 5 [.int .u8 a, .int .u8 b, .int .u8 c, .int .u8 d])
theorem and15 : ∀ b : Nat, b < 256 → bits .and .u8 (b : Int) 15 = ((b % 16 : Nat) : Int) := by decide +kernel
theorem hex_at (L : ByteArray) (h : hexL = L) : L.size = 16 ∧ ∀ (j : Nat) (hj : j < L.size), L[j] = hexB j := by
  subst h
  refine ⟨rfl, fun j hj => ?_⟩
  unfold hexB
  rw [List.getElem?_eq_getElem (show j < hexL.data.toList.length from hj)]
  rfl
theorem spec_idx (b : Nat) : specE b = decide (0 ≤ Lib.indexByte (⟨#[40, 41, 91, 93, 124, 42, 43, 63, 46, 92, 45, 94]⟩ : ByteArray).data.toList (b : Int).toNat.toUInt8) := rfl
theorem nums1 (b : Nat) : strOfNums [(b : Int)] = ⟨[UInt8.ofNat b].toArray⟩ := rfl
theorem nums2 (b : Nat) : strOfNums [92, (b : Int)] = ⟨[92, UInt8.ofNat b].toArray⟩ := rfl
theorem nums4 (x y : UInt8) : strOfNums [92, 120, (x.toNat : Int), (y.toNat : Int)] = ⟨[92, 120, x, y].toArray⟩ := by
  unfold strOfNums
  simp
theorem hex_nums (h l : Nat) (hh : h < 16) (hl : l < 16) : strOfNums [92, 120, ((hexL[h]'(by exact hh)).toNat : Int), ((hexL[l]'(by exact hl)).toNat : Int)] = ⟨[92, 120, hexB h, hexB l].toArray⟩ := by
  have e1 : (hexL[h]'(by exact hh)) = hexB h := (hex_at hexL rfl).2 h hh
  have e2 : (hexL[l]'(by exact hl)) = hexB l := (hex_at hexL rfl).2 l hl
  have e3 : ∀ x y x' y' : UInt8, x = x' → y = y' → (⟨[92, 120, x, y].toArray⟩ : ByteArray) = ⟨[92, 120, x', y'].toArray⟩ := fun x y x' y' h1 h2 => by rw [h1, h2]
  exact (nums4 _ _).trans (e3 _ _ _ _ e1 e2)
theorem hex_cut : ∀ h : Nat, h < 16 → (hexL.extract h (h + 1)).data.toList = [hexB h] := by decide +kernel
theorem hex_join (L : ByteArray) (hL : hexL = L) (h l : Nat) (hh : h < 16) (hl : l < 16) : (⟨#[92, 120]⟩ : ByteArray) ++ L.extract h (h + 1) ++ L.extract l (l + 1) = ⟨[92, 120, hexB h, hexB l].toArray⟩ := by
  subst hL
  apply ByteArray.ext
  rw [← Array.toList_inj]
  simp only [ByteArray.data_append, Array.toList_append]
  rw [hex_cut h hh, hex_cut l hl]
  rfl
theorem esc_join (b : Nat) : (⟨#[92]⟩ : ByteArray) ++ strOfNums [(b : Int)] = ⟨[92, UInt8.ofNat b].toArray⟩ := by
  rw [nums1]
  apply ByteArray.ext
  simp [ByteArray.data_append]
set_option maxHeartbeats 2000000 in
set_option maxRecDepth 100000 in
theorem shown_any (b : Nat) (w : World) (hb : b < 256) : Calls Tryd.prog 54 #[.int .u8 (b : Int)] w (StrP (shownE b) w) := by
  by_cases h1 : b = 10
  · subst h1
    go_enter Tryd.func54, Tryd.ntmps54
    go_wp2
    go_ret
    exact StrP.mk rfl rfl (Below.refl _ _)
  have q1 : ((b : Int) == 10) = false := by simp; omega
  by_cases h2 : b = 9
  · subst h2
    go_enter Tryd.func54, Tryd.ntmps54
    go_wp2
    go_ret
    exact StrP.mk rfl rfl (Below.refl _ _)
  have q2 : ((b : Int) == 9) = false := by simp; omega
  by_cases h3 : b = 13
  · subst h3
    go_enter Tryd.func54, Tryd.ntmps54
    go_wp2
    go_ret
    exact StrP.mk rfl rfl (Below.refl _ _)
  have q3 : ((b : Int) == 13) = false := by simp; omega
  have HI := hide (fun W => Tryd.strings_IndexByte spcL (b : Int) W)
  unfold spcL at HI
  have HSP := spec_idx b
  obtain ⟨n, hn⟩ : ∃ n, Lib.indexByte (⟨#[40, 41, 91, 93, 124, 42, 43, 63, 46, 92, 45, 94]⟩ : ByteArray).data.toList (b : Int).toNat.toUInt8 = n := ⟨_, rfl⟩
  rw [hn] at HSP
  have HN := hide hn
  clear hn
  by_cases h4 : 0 ≤ n
  · have HE := hide (show shownE b = [92, UInt8.ofNat b] by unfold shownE; rw [if_neg h1, if_neg h2, if_neg h3, HSP, decide_eq_true h4, if_pos rfl])
    have kc := cv2
    clear HSP
    go_enter Tryd.func54, Tryd.ntmps54
    go_wp2_with fail
    refine (HI.out _).mono ?_; rw [HN.out]; rintro e w1 ⟨rfl, rfl⟩
    go_wp2
    go_ret
    exact StrP.mk (by rw [HE.out]; exact nums2 b) rfl ((Below.refl _ _).alloc (Nat.le_refl _) _)
  by_cases h5 : 32 < b ∧ b < 127
  · have HE := hide (show shownE b = [UInt8.ofNat b] by unfold shownE; rw [if_neg h1, if_neg h2, if_neg h3, HSP, decide_eq_false h4, if_neg (by decide), if_pos h5])
    have kc := cv1
    have q5 : (32 : Int) < (b : Int) := by omega
    have q6 : (b : Int) < 127 := by omega
    clear HSP
    go_enter Tryd.func54, Tryd.ntmps54
    go_wp2_with fail
    refine (HI.out _).mono ?_; rw [HN.out]; rintro e w1 ⟨rfl, rfl⟩
    go_wp2
    go_ret
    exact StrP.mk (by rw [HE.out]; exact nums1 b) rfl ((Below.refl _ _).alloc (Nat.le_refl _) _)
  have HE := hide (show shownE b = [92, 120, hexB (b / 16), hexB (b % 16)] by unfold shownE; rw [if_neg h1, if_neg h2, if_neg h3, HSP, decide_eq_false h4, if_neg (by decide), if_neg h5])
  have kc := cv4
  clear HSP
  have hand := and15 b hb
  obtain ⟨h, hh⟩ : ∃ h, b / 16 = h := ⟨_, rfl⟩
  obtain ⟨l, hl⟩ : ∃ l, b % 16 = l := ⟨_, rfl⟩
  rw [hl] at hand
  rw [hh, hl] at HE
  have hdv : (b : Int) / 16 = (h : Int) := by omega
  have g1 : (0 : Int) ≤ (h : Int) := by omega
  have g2 : (h : Int) < 16 := by omega
  have g3 : (0 : Int) ≤ (l : Int) := by omega
  have g4 : (l : Int) < 16 := by omega
  have h56 : (¬ (32 : Int) < (b : Int)) ∨ ((32 : Int) < (b : Int) ∧ ¬ (b : Int) < 127) := by omega
  clear hh hl
  rcases h56 with q5 | ⟨q5, q6⟩
  all_goals (
    go_enter Tryd.func54, Tryd.ntmps54
    go_wp2_with fail
    refine (HI.out _).mono ?_; rw [HN.out]; rintro e w1 ⟨rfl, rfl⟩
    go_wp2
    go_region
    go_wp2
    go_ret
    exact StrP.mk (by rw [HE.out]; exact hex_nums h l (by omega) (by omega)) rfl (Below.drew ((Below.refl _ _).alloc (Nat.le_refl _) _)))
set_option maxHeartbeats 2000000 in
set_option maxRecDepth 100000 in
theorem byte1_any (b : Nat) (w : World) (hb : b < 256) : Calls Tryd.prog 58 #[.int .u8 (b : Int)] w (StrP (shownE b) w) := by
  by_cases h1 : b = 10
  · subst h1
    go_enter Tryd.func58, Tryd.ntmps58
    go_wp2
    go_ret
    exact StrP.mk rfl rfl (Below.refl _ _)
  have q1 : ((b : Int) == 10) = false := by simp; omega
  by_cases h2 : b = 9
  · subst h2
    go_enter Tryd.func58, Tryd.ntmps58
    go_wp2
    go_ret
    exact StrP.mk rfl rfl (Below.refl _ _)
  have q2 : ((b : Int) == 9) = false := by simp; omega
  by_cases h3 : b = 13
  · subst h3
    go_enter Tryd.func58, Tryd.ntmps58
    go_wp2
    go_ret
    exact StrP.mk rfl rfl (Below.refl _ _)
  have q3 : ((b : Int) == 13) = false := by simp; omega
  have HI := hide (rspecial_any b hb w)
  cases h4 : specE b with
  | true =>
    have HE := hide (show shownE b = [92, UInt8.ofNat b] by unfold shownE; rw [if_neg h1, if_neg h2, if_neg h3, h4, if_pos rfl])
    rw [h4] at HI
    have kc := cv1
    have o1 : ((⟨#[92]⟩ : ByteArray).size + (strOfNums [(b : Int)]).size : Int) ≤ 9223372036854775807 := by rw [strOfNums_size]; simp [ByteArray.size]
    clear h4
    go_enter Tryd.func58, Tryd.ntmps58
    go_wp2_with fail
    refine HI.out.mono ?_; rintro e w1 ⟨rfl, rfl⟩
    go_wp2
    go_ret
    exact StrP.mk (by rw [HE.out]; exact esc_join b) rfl ((Below.refl _ _).alloc (Nat.le_refl _) _)
  | false =>
    rw [h4] at HI
    by_cases h5 : 32 < b ∧ b < 127
    · have HE := hide (show shownE b = [UInt8.ofNat b] by unfold shownE; rw [if_neg h1, if_neg h2, if_neg h3, h4, if_neg (by decide), if_pos h5])
      have kc := cv1
      have q5 : (33 : Int) ≤ (b : Int) := by omega
      have q6 : (b : Int) ≤ 126 := by omega
      clear h4
      go_enter Tryd.func58, Tryd.ntmps58
      go_wp2_with fail
      refine HI.out.mono ?_; rintro e w1 ⟨rfl, rfl⟩
      go_wp2
      go_ret
      exact StrP.mk (by rw [HE.out]; exact nums1 b) rfl ((Below.refl _ _).alloc (Nat.le_refl _) _)
    have HE := hide (show shownE b = [92, 120, hexB (b / 16), hexB (b % 16)] by unfold shownE; rw [if_neg h1, if_neg h2, if_neg h3, h4, if_neg (by decide), if_neg h5])
    obtain ⟨h, hh⟩ : ∃ h, b / 16 = h := ⟨_, rfl⟩
    obtain ⟨l, hl⟩ : ∃ l, b % 16 = l := ⟨_, rfl⟩
    rw [hh, hl] at HE
    have hdv : (b : Int) / 16 = (h : Int) := by omega
    have hmd : (b : Int) % 16 = (l : Int) := by omega
    obtain ⟨h', hh'⟩ : ∃ q, h + 1 = q := ⟨_, rfl⟩
    obtain ⟨l', hl'⟩ : ∃ q, l + 1 = q := ⟨_, rfl⟩
    have w1 : IntKind.u8.wrap ((h : Int) + 1) = (h' : Int) := by rw [show (h : Int) + 1 = (h' : Int) by omega]; simp only [IntKind.wrap_u8]; omega
    have w2 : IntKind.u8.wrap ((l : Int) + 1) = (l' : Int) := by rw [show (l : Int) + 1 = (l' : Int) by omega]; simp only [IntKind.wrap_u8]; omega
    have h56 : (¬ (33 : Int) ≤ (b : Int)) ∨ ((33 : Int) ≤ (b : Int) ∧ ¬ (b : Int) ≤ 126) := by omega
    have hb16 : h < 16 ∧ l < 16 := by omega
    have HHL := hide (And.intro hh' hl')
    have e1 : h ≤ h' := by omega
    have e2 : l ≤ l' := by omega
    have e3 : h' ≤ 16 := by omega
    have e4 : l' ≤ 16 := by omega
    clear h4 hh hl hh' hl' h5
    rcases h56 with q5 | ⟨q5, q6⟩
    all_goals (
      go_enter Tryd.func58, Tryd.ntmps58
      go_wp2_with fail
      refine HI.out.mono ?_; rintro e w1 ⟨rfl, rfl⟩
      go_wp2
      obtain ⟨L, hL⟩ : ∃ L, (⟨#[48, 49, 50, 51, 52, 53, 54, 55, 56, 57, 97, 98, 99, 100, 101, 102]⟩ : ByteArray) = L := ⟨_, rfl⟩
      rw [hL]
      have hLs : L.size = 16 := by rw [← hL]; rfl
      have HJ := hide (hex_join L hL h l hb16.1 hb16.2)
      have e5 : h' ≤ L.size := by omega
      have e6 : l' ≤ L.size := by omega
      have z1 : (L.extract h h').size = 1 := by rw [ByteArray.size_extract]; have := HHL.out.1; omega
      have z2 : (L.extract l l').size = 1 := by rw [ByteArray.size_extract]; have := HHL.out.2; omega
      have y1 : ((⟨#[92, 120]⟩ : ByteArray) ++ L.extract h h').size = 3 := by rw [ByteArray.size_append, z1]; rfl
      clear hL
      go_region
      go_wp2
      go_ret
      exact StrP.mk (by rw [HE.out, ← HJ.out, HHL.out.1, HHL.out.2]) rfl (Below.drew (Below.refl _ _)))
end Go.Proofs.YtfamoikmfbpigaaDoor
namespace Go.Proofs.YtfamoikmfbpigaaDoor
open Go.RowKit

def endR (S : List Nat) : Nat → Nat → Nat
  | 0, b => b
  | f + 1, b => if b < 255 ∧ hasS S (b + 1) = true then endR S f (b + 1) else b
/-- Where the run that has a byte ends. -/
def enR (S : List Nat) (b : Nat) : Nat := endR S (255 - b) b
theorem enR_go {S : List Nat} {b : Nat} (h : b < 255) (h2 : hasS S (b + 1) = true) : enR S b = enR S (b + 1) := by
  unfold enR
  rw [show 255 - b = (255 - (b + 1)) + 1 by omega, endR, if_pos ⟨h, h2⟩]
theorem enR_last {S : List Nat} {b : Nat} (h : ¬ b < 255) : enR S b = b := by
  unfold enR
  rw [show 255 - b = 0 by omega]; rfl
theorem enR_no {S : List Nat} {b : Nat} (h2 : hasS S (b + 1) = false) : enR S b = b := by
  unfold enR
  cases e : 255 - b with
  | zero => rfl
  | succ f => rw [endR, if_neg (by rw [h2]; simp)]
theorem endR_bd (S : List Nat) : ∀ (f b : Nat), b ≤ 255 → b ≤ endR S f b ∧ endR S f b ≤ 255
  | 0, b, h => ⟨Nat.le_refl _, h⟩
  | f + 1, b, h => by
    rw [endR]
    split
    · rename_i h1
      have := endR_bd S f (b + 1) (by omega)
      omega
    · exact ⟨Nat.le_refl _, h⟩
theorem enR_bd (S : List Nat) {b : Nat} (h : b ≤ 255) : b ≤ enR S b ∧ enR S b ≤ 255 := endR_bd S _ b h
def scanR (S : List Nat) : Nat → Nat → List (Nat × Nat)
  | 0, _ => []
  | f + 1, b => if b < 256 then (if hasS S b = true then (b, enR S b) :: scanR S f (enR S b + 1) else scanR S f (b + 1)) else []
theorem scanR_out (S : List Nat) (f b : Nat) (h : ¬ b < 256) : scanR S f b = [] := by
  cases f with
  | zero => rfl
  | succ f => rw [scanR, if_neg h]
theorem scanR_fuel (S : List Nat) : ∀ (f g b : Nat), 256 - b ≤ f → 256 - b ≤ g → scanR S f b = scanR S g b
  | 0, g, b, h, _ => by rw [scanR_out S 0 b (by omega), scanR_out S g b (by omega)]
  | f + 1, 0, b, _, h => by rw [scanR_out S _ b (by omega), scanR_out S _ b (by omega)]
  | f + 1, g + 1, b, h1, h2 => by
    rw [scanR, scanR]
    split
    · rename_i hb
      have := enR_bd S (b := b) (by omega)
      rw [scanR_fuel S f g (enR S b + 1) (by omega) (by omega), scanR_fuel S f g (b + 1) (by omega) (by omega)]
    · rfl
/-- The runs from a byte on. -/
def scR (S : List Nat) (b : Nat) : List (Nat × Nat) := scanR S (256 - b) b
theorem scR_yes {S : List Nat} {b : Nat} (h : b < 256) (h2 : hasS S b = true) : scR S b = (b, enR S b) :: scR S (enR S b + 1) := by
  unfold scR
  have := enR_bd S (b := b) (by omega)
  rw [show 256 - b = (255 - b) + 1 by omega, scanR, if_pos h, if_pos h2, scanR_fuel S (255 - b) (256 - (enR S b + 1)) _ (by omega) (by omega)]
theorem scR_no {S : List Nat} {b : Nat} (h : b < 256) (h2 : hasS S b = false) : scR S b = scR S (b + 1) := by
  unfold scR
  rw [show 256 - b = (256 - (b + 1)) + 1 by omega, scanR, if_pos h, if_neg (by rw [h2]; decide)]
theorem scR_out {S : List Nat} {b : Nat} (h : ¬ b < 256) : scR S b = [] := scanR_out S _ b h
def spanT (p : Nat × Nat) : List UInt8 := shownE p.1 ++ (if p.1 < p.2 then 45 :: shownE p.2 else [])
def manyR (l : List (Nat × Nat)) : Nat := (l.map fun p => p.2 - p.1 + 1).sum
def noneT : List UInt8 := [91, 94, 92, 120, 48, 48, 45, 92, 120, 102, 102, 93]
/-- A set, as it is shown. -/
def spansE (S : List Nat) : List UInt8 :=
  if manyR (scR S 0) = 0 then noneT else if manyR (scR S 0) = 1 then (scR S 0).flatMap spanT else 91 :: ((scR S 0).flatMap spanT ++ [93])
theorem manyR_app (l m : List (Nat × Nat)) : manyR (l ++ m) = manyR l + manyR m := by simp [manyR]
theorem manyR_len (l : List (Nat × Nat)) : l.length ≤ manyR l := by
  induction l with
  | nil => simp [manyR]
  | cons p l ih => simp only [manyR, List.map_cons, List.sum_cons, List.length_cons] at *; omega
theorem shownE_len (b : Nat) : (shownE b).length ≤ 4 := by
  unfold shownE
  repeat' split
  all_goals simp
theorem spanT_len (p : Nat × Nat) : (spanT p).length ≤ 9 := by
  unfold spanT
  have h1 := shownE_len p.1
  have h2 := shownE_len p.2
  rw [List.length_append]
  split
  · simp; omega
  · simp; omega
theorem flat_len (l : List (Nat × Nat)) : (l.flatMap spanT).length ≤ 9 * l.length := by
  induction l with
  | nil => simp
  | cons p l ih =>
    have := spanT_len p
    rw [List.flatMap_cons, List.length_append, List.length_cons]; omega
theorem join_flat (l : List (List UInt8)) : Go.Lib.join l [] = l.flatten := by
  cases l with
  | nil => rfl
  | cons x r => rw [Go.Lib.join_cons]; simp [Go.Lib.joinTail]
theorem toArr_app (a b : List UInt8) : (⟨a.toArray⟩ ++ ⟨b.toArray⟩ : ByteArray) = ⟨(a ++ b).toArray⟩ := by
  apply ByteArray.ext
  simp [ByteArray.data_append]
end Go.Proofs.YtfamoikmfbpigaaDoor
namespace Go.Proofs.YtfamoikmfbpigaaDoor
open Go.RowKit

abbrev bl (l : List UInt8) : ByteArray := ⟨l.toArray⟩
theorem bl_size (l : List UInt8) : (bl l).size = l.length := rfl
theorem bl_tail (b : UInt8) (l : List UInt8) : (bl (b :: l)).extract 1 (bl (b :: l)).size = bl l := by
  apply ByteArray.ext
  rw [ByteArray.data_extract, bl_size]
  show (b :: l).toArray.extract 1 (l.length + 1) = l.toArray
  simp
theorem tk_cons (b : UInt8) (l : List UInt8) : tk (bl (b :: l)) = some (b.toNat, bl l) := by
  unfold tk
  rw [dif_pos (by rw [bl_size]; simp), bl_tail]
  rfl
theorem tk_nil : tk (bl []) = none := rfl
theorem nextB_cons (b : UInt8) (l : List UInt8) : nextB (bl (b :: l)) = b.toNat := by
  unfold nextB
  rw [dif_pos (by rw [bl_size]; simp)]
  rfl
theorem nextB_nil : nextB (bl []) = 0 := rfl
theorem isB_cons (b : UInt8) (l : List UInt8) (c : Nat) : isB (bl (b :: l)) c = (b.toNat == c) := by
  unfold isB
  rw [dif_pos (by rw [bl_size]; simp)]
  rfl
theorem isB_nil (c : Nat) : isB (bl []) c = false := rfl
theorem isB_yes {b : UInt8} {l : List UInt8} {c : Nat} (h : b.toNat = c) : isB (bl (b :: l)) c = true := by rw [isB_cons, h]; simp
theorem isB_no {b : UInt8} {l : List UInt8} {c : Nat} (h : b.toNat ≠ c) : isB (bl (b :: l)) c = false := by rw [isB_cons]; simp [h]
theorem skip_yes {b : UInt8} {l : List UInt8} {c : Nat} (h : b.toNat = c) : skipS (bl (b :: l)) c = bl l := by
  unfold skipS
  rw [if_pos (isB_yes h), bl_tail]
theorem skip_no {b : UInt8} {l : List UInt8} {c : Nat} (h : b.toNat ≠ c) : skipS (bl (b :: l)) c = bl (b :: l) := by
  unfold skipS
  rw [if_neg (by rw [isB_no h]; decide)]
/-- What is escaped: one byte. -/
theorem esc_one (c : UInt8) (r : List UInt8) : escE (bl (c :: r)) = if c.toNat = 110 then some (10, bl r) else if c.toNat = 116 then some (9, bl r) else if c.toNat = 114 then some (13, bl r)
    else if c.toNat = 120 then (match tk (bl r) with | none => none | some (x, s2) => match digE x with | none => none | some h => match tk s2 with | none => none | some (y, s3) => match digE y with | none => none | some l => some (h * 16 + l, s3))
    else if specE c.toNat = true then some (c.toNat, bl r) else none := by
  unfold escE
  rw [tk_cons]
  rfl
theorem dig_hex : ∀ h, h < 16 → digE (hexB h).toNat = some h := by decide +kernel
theorem esc_hex (h l : Nat) (hh : h < 16) (hl : l < 16) (r : List UInt8) : escE (bl (120 :: hexB h :: hexB l :: r)) = some (h * 16 + l, bl r) := by
  rw [esc_one, if_neg (by decide), if_neg (by decide), if_neg (by decide), if_pos (by decide), tk_cons]
  dsimp only
  rw [dig_hex h hh]
  dsimp only
  rw [tk_cons]
  dsimp only
  rw [dig_hex l hl]
theorem spec_tab : ∀ b, b < 256 → specE b = true → b ≠ 110 ∧ b ≠ 116 ∧ b ≠ 114 ∧ b ≠ 120 ∧ 32 < b ∧ b < 127 := by decide +kernel
theorem spec_all : ∀ c ∈ [40, 41, 91, 93, 124, 42, 43, 63, 46, 92, 45, 94], specE c = true := by decide +kernel
theorem spec_no_tab (b : Nat) (_ : b < 256) (h : specE b = false) : b ≠ 40 ∧ b ≠ 41 ∧ b ≠ 91 ∧ b ≠ 93 ∧ b ≠ 124 ∧ b ≠ 42 ∧ b ≠ 43 ∧ b ≠ 63 ∧ b ≠ 46 ∧ b ≠ 92 ∧ b ≠ 45 ∧ b ≠ 94 := by
  refine ⟨?_, ?_, ?_, ?_, ?_, ?_, ?_, ?_, ?_, ?_, ?_, ?_⟩ <;> (intro e; have := spec_all b (by rw [e]; decide); rw [h] at this; cases this)
theorem ofNat_to {b : Nat} (hb : b < 256) : (UInt8.ofNat b).toNat = b := by simp; omega
/-- A byte, as it is shown: one that stands for itself, or one that is escaped. -/
theorem shown_ways (b : Nat) (hb : b < 256) : (specE b = false ∧ shownE b = [UInt8.ofNat b]) ∨ ∃ t, shownE b = 92 :: t ∧ ∀ r, escE (bl (t ++ r)) = some (b, bl r) := by
  unfold shownE
  by_cases h10 : b = 10
  · subst h10; exact .inr ⟨[110], by rw [if_pos rfl], fun r => by rw [List.cons_append, esc_one, if_pos (by decide)]; rfl⟩
  rw [if_neg h10]
  by_cases h9 : b = 9
  · subst h9; exact .inr ⟨[116], by rw [if_pos rfl], fun r => by rw [List.cons_append, esc_one, if_neg (by decide), if_pos (by decide)]; rfl⟩
  rw [if_neg h9]
  by_cases h13 : b = 13
  · subst h13; exact .inr ⟨[114], by rw [if_pos rfl], fun r => by rw [List.cons_append, esc_one, if_neg (by decide), if_neg (by decide), if_pos (by decide)]; rfl⟩
  rw [if_neg h13]
  cases hs : specE b with
  | true =>
    refine .inr ⟨[UInt8.ofNat b], by rw [if_pos rfl], fun r => ?_⟩
    obtain ⟨n1, n2, n3, n4, -⟩ := spec_tab b hb hs
    rw [List.cons_append, esc_one, ofNat_to hb, if_neg n1, if_neg n2, if_neg n3, if_neg n4, if_pos hs]; rfl
  | false =>
    rw [if_neg (by decide)]
    by_cases hp : 32 < b ∧ b < 127
    · rw [if_pos hp]; exact .inl ⟨rfl, rfl⟩
    · rw [if_neg hp]
      refine .inr ⟨_, rfl, fun r => ?_⟩
      rw [List.cons_append, List.cons_append, List.cons_append, esc_hex _ _ (by omega) (by omega)]
      rw [show b / 16 * 16 + b % 16 = b by omega]; rfl
theorem let_shown (b : Nat) (hb : b < 256) (r : List UInt8) : letE (bl (shownE b ++ r)) = some (b, bl r) := by
  unfold letE
  rcases shown_ways b hb with ⟨hs, e⟩ | ⟨t, e, h⟩
  · rw [e, List.cons_append, tk_cons, ofNat_to hb]
    dsimp only
    rw [if_neg (spec_no_tab b hb hs).2.2.2.2.2.2.2.2.2.1, if_neg (by rw [hs]; decide)]; rfl
  · rw [e, List.cons_append, tk_cons]
    dsimp only
    rw [if_pos (by decide), h r]
/-- How what is shown begins. -/
def headOk (c : UInt8) : Prop := c.toNat ≠ 41 ∧ c.toNat ≠ 93 ∧ c.toNat ≠ 124 ∧ c.toNat ≠ 42 ∧ c.toNat ≠ 43 ∧ c.toNat ≠ 63
theorem shown_head (b : Nat) (hb : b < 256) : ∃ c t, shownE b = c :: t ∧ headOk c ∧ c.toNat ≠ 94 ∧ c.toNat ≠ 45 := by
  rcases shown_ways b hb with ⟨hs, e⟩ | ⟨t, e, -⟩
  · obtain ⟨h1, h2, h3, h4, h5, h6, h7, h8, h9, h10, h11, h12⟩ := spec_no_tab b hb hs
    refine ⟨_, _, e, ⟨?_, ?_, ?_, ?_, ?_, ?_⟩, ?_, ?_⟩ <;> rw [ofNat_to hb] <;> assumption
  · exact ⟨_, _, e, ⟨by decide, by decide, by decide, by decide, by decide, by decide⟩, by decide, by decide⟩
theorem atom_shown (R : ByteArray → Option (Nd × ByteArray)) (b : Nat) (hb : b < 256) (r : List UInt8) : atomE R (bl (shownE b ++ r)) = some (.mk 1 (spanS noSet b 1) [], bl r) := by
  unfold atomE
  rcases shown_ways b hb with ⟨hs, e⟩ | ⟨t, e, h⟩
  · obtain ⟨h1, h2, h3, h4, h5, h6, h7, h8, h9, h10, h11, h12⟩ := spec_no_tab b hb hs
    rw [e, List.cons_append, tk_cons, ofNat_to hb]
    dsimp only
    rw [if_neg h1, if_neg h3, if_neg h9, if_neg h10, if_neg (by omega)]; rfl
  · rw [e, List.cons_append, tk_cons]
    dsimp only
    rw [if_neg (by decide), if_neg (by decide), if_neg (by decide), if_pos (by decide), h r]
end Go.Proofs.YtfamoikmfbpigaaDoor
namespace Go.Proofs.YtfamoikmfbpigaaDoor
open Go.RowKit

theorem hasS_bit {S : List Nat} (hl : S.length = 4) {b c : Nat} (hb : b < 256) (hc : c < 256) : hasS (bitS S b) c = (hasS S c || b == c) := by
  unfold hasS bitS
  rw [List.getElem?_set]
  by_cases h : b / 64 = c / 64
  · rw [if_pos h, if_pos (by omega), h]
    simp only [Option.getD_some]
    rw [Nat.testBit_or, Nat.testBit_two_pow]
    congr 1
    rw [Bool.eq_iff_iff, decide_eq_true_eq, beq_iff_eq]
    omega
  · rw [if_neg h]
    rw [show (b == c) = false by simp; intro e; exact h (by rw [e])]
    simp
theorem hasS_span {S : List Nat} (hl : S.length = 4) (a : Nat) : ∀ n, a + n ≤ 256 → ∀ c, c < 256 → hasS (spanS S a n) c = (hasS S c || (decide (a ≤ c) && decide (c < a + n)))
  | 0, _, c, _ => by
    rw [spanS, show (decide (a ≤ c) && decide (c < a + 0)) = false by rw [Bool.and_eq_false_iff]; by_cases h : a ≤ c; right; simp; omega; left; simp; omega]; simp
  | n + 1, h, c, hc => by
    rw [spanS, hasS_bit (by rw [spanS_len]; exact hl) (by omega) hc, hasS_span hl a n (by omega) c hc, Bool.or_assoc]
    congr 1
    rw [Bool.eq_iff_iff]
    simp
    omega
theorem hasS_no (c : Nat) : hasS noSet c = false := by
  unfold hasS
  rw [show noSet = List.replicate 4 0 from rfl, List.getElem?_replicate]
  split <;> simp
/-- Two sets that have the same bytes are one. -/
theorem set_ext {S T : List Nat} (hS : W64 S) (hT : W64 T) (h : ∀ c, c < 256 → hasS S c = hasS T c) : S = T := by
  apply List.ext_getElem?
  intro q
  by_cases hq : q < 4
  · have e1 : S[q]? = some (S[q]'(by rw [hS.1]; exact hq)) := List.getElem?_eq_getElem _
    have e2 : T[q]? = some (T[q]'(by rw [hT.1]; exact hq)) := List.getElem?_eq_getElem _
    rw [e1, e2]
    congr 1
    apply Nat.eq_of_testBit_eq
    intro r
    by_cases hr : r < 64
    · have := h (q * 64 + r) (by omega)
      unfold hasS at this
      rw [show (q * 64 + r) / 64 = q by omega, show (q * 64 + r) % 64 = r by omega, e1, e2] at this
      exact this
    · have h1 := hS.2 _ (List.getElem_mem (l := S) (n := q) (by rw [hS.1]; exact hq))
      have h2 := hT.2 _ (List.getElem_mem (l := T) (n := q) (by rw [hT.1]; exact hq))
      have hp : 18446744073709551616 ≤ 2 ^ r := by
        rw [show (18446744073709551616 : Nat) = 2 ^ 64 from rfl]
        exact Nat.pow_le_pow_right (by omega) (by omega)
      rw [Nat.testBit_lt_two_pow (by omega), Nat.testBit_lt_two_pow (by omega)]
  · rw [List.getElem?_eq_none (by rw [hS.1]; omega), List.getElem?_eq_none (by rw [hT.1]; omega)]
/-- Runs, put together. -/
def foldR (S : List Nat) (rs : List (Nat × Nat)) : List Nat := rs.foldl (fun S p => spanS S p.1 (p.2 + 1 - p.1)) S
def inR (rs : List (Nat × Nat)) (c : Nat) : Bool := rs.any fun p => decide (p.1 ≤ c) && decide (c ≤ p.2)
def RunsOk (rs : List (Nat × Nat)) : Prop := ∀ p ∈ rs, p.1 ≤ p.2 ∧ p.2 < 256
theorem foldR_len : ∀ (rs : List (Nat × Nat)) (S : List Nat), (foldR S rs).length = S.length
  | [], _ => rfl
  | p :: rs, S => by
    have := foldR_len rs (spanS S p.1 (p.2 + 1 - p.1))
    rw [spanS_len] at this
    exact this
theorem foldR_w : ∀ (rs : List (Nat × Nat)) (S : List Nat), W64 S → W64 (foldR S rs)
  | [], _, h => h
  | p :: rs, S, h => foldR_w rs _ (spanS_w h _ _)
theorem foldR_has : ∀ (rs : List (Nat × Nat)) (S : List Nat), S.length = 4 → RunsOk rs → ∀ c, c < 256 → hasS (foldR S rs) c = (hasS S c || inR rs c)
  | [], S, _, _, c, _ => by simp [foldR, inR]
  | p :: rs, S, hl, ho, c, hc => by
    have h1 := ho p (by simp)
    have ih := foldR_has rs (spanS S p.1 (p.2 + 1 - p.1)) (by rw [spanS_len]; exact hl) (fun q hq => ho q (by simp [hq])) c hc
    rw [hasS_span hl _ _ (by omega) c hc] at ih
    show hasS (foldR (spanS S p.1 (p.2 + 1 - p.1)) rs) c = _
    rw [ih, Bool.or_assoc]
    congr 1
    unfold inR
    rw [List.any_cons]
    congr 1
    rw [Bool.eq_iff_iff]
    simp
    omega
theorem endR_has (S : List Nat) : ∀ (f b : Nat), hasS S b = true → ∀ c, b ≤ c → c ≤ endR S f b → hasS S c = true
  | 0, b, h, c, h1, h2 => by
    rw [endR] at h2
    obtain rfl : b = c := by omega
    exact h
  | f + 1, b, h, c, h1, h2 => by
    rw [endR] at h2
    split at h2
    · rename_i hx
      by_cases e : b = c
      · rw [← e]; exact h
      · exact endR_has S f (b + 1) hx.2 c (by omega) h2
    · obtain rfl : b = c := by omega
      exact h
theorem scanR_ok (S : List Nat) : ∀ (f b : Nat), RunsOk (scanR S f b)
  | 0, b => by intro p hp; simp [scanR] at hp
  | f + 1, b => by
    intro p hp
    rw [scanR] at hp
    split at hp
    · rename_i hb
      split at hp
      · have := enR_bd S (b := b) (by omega)
        rcases List.mem_cons.1 hp with rfl | hp
        · exact ⟨this.1, by dsimp only; omega⟩
        · exact scanR_ok S f _ p hp
      · exact scanR_ok S f _ p hp
    · cases hp
theorem scanR_in (S : List Nat) : ∀ (f b : Nat), 256 - b ≤ f → ∀ c, c < 256 → inR (scanR S f b) c = (decide (b ≤ c) && hasS S c)
  | 0, b, hf, c, hc => by
    rw [decide_eq_false (by omega)]; simp [scanR, inR]
  | f + 1, b, hf, c, hc => by
    rw [scanR]
    by_cases hb : b < 256
    · rw [if_pos hb]
      cases h2 : hasS S b with
      | true =>
        rw [if_pos rfl]
        have h3 := enR_bd S (b := b) (by omega)
        have ih := scanR_in S f (enR S b + 1) (by omega) c hc
        unfold inR at ih ⊢
        rw [List.any_cons, ih]
        by_cases h4 : b ≤ c ∧ c ≤ enR S b
        · have := endR_has S (255 - b) b h2 c h4.1 h4.2
          rw [this, decide_eq_true h4.1, decide_eq_true h4.2]; simp
        · by_cases h5 : b ≤ c
          · rw [decide_eq_true h5, decide_eq_false (show ¬ c ≤ enR S b by omega), decide_eq_true (show enR S b + 1 ≤ c by omega)]; simp
          · rw [decide_eq_false h5, decide_eq_false (show ¬ enR S b + 1 ≤ c by omega)]; simp
      | false =>
        rw [if_neg (by decide), scanR_in S f (b + 1) (by omega) c hc]
        by_cases e : b = c
        · subst e; rw [h2]; simp
        · rw [show decide (b + 1 ≤ c) = decide (b ≤ c) by rw [decide_eq_decide]; omega]
    · rw [if_neg hb, decide_eq_false (by omega)]; simp [inR]
theorem fold_runs {S : List Nat} (hS : W64 S) : foldR noSet (scR S 0) = S := by
  apply set_ext (foldR_w _ _ noSet_w) hS
  intro c hc
  unfold scR
  rw [foldR_has _ _ rfl (scanR_ok S _ _) c hc, hasS_no, scanR_in S _ _ (by omega) c hc]
  simp
theorem many0 {rs : List (Nat × Nat)} (h : manyR rs = 0) : rs = [] := by
  cases rs with
  | nil => rfl
  | cons p l => simp [manyR] at h
theorem many1 {rs : List (Nat × Nat)} (hr : RunsOk rs) (h : manyR rs = 1) : ∃ b, b < 256 ∧ rs = [(b, b)] := by
  cases rs with
  | nil => simp [manyR] at h
  | cons p l =>
    obtain ⟨x, y⟩ := p
    have h1 := hr (x, y) (by simp)
    simp [manyR] at h h1
    have h2 : (l.map fun p => p.2 - p.1 + 1).sum = 0 := by omega
    obtain rfl := many0 (rs := l) h2
    obtain rfl : x = y := by omega
    exact ⟨x, h1.2, rfl⟩
/-- Runs' text, in brackets. -/
theorem bra_runs (r : List UInt8) : ∀ (rs : List (Nat × Nat)) (S : List Nat) (fst : Bool) (f : Nat), RunsOk rs → (rs ≠ [] ∨ fst = false) → rs.length < f → braL f fst (bl (rs.flatMap spanT ++ 93 :: r)) S = some (foldR S rs, bl (93 :: r))
  | [], S, fst, f, _, h, hf => by
    obtain ⟨f, rfl⟩ : ∃ g, f = g + 1 := ⟨f - 1, by simp at hf; omega⟩
    have hfst : fst = false := h.resolve_left (fun e => e rfl)
    rw [braL, hfst]
    show (if (false = true ∨ nextB (bl (93 :: r)) ≠ 93) then _ else _) = _
    rw [if_neg (by rw [nextB_cons]; decide)]; rfl
  | (a, e) :: rs, S, fst, f, ho, _, hf => by
    obtain ⟨f, rfl⟩ : ∃ g, f = g + 1 := ⟨f - 1, by simp at hf; omega⟩
    have ho1 := ho (a, e) (by simp)
    have ho2 : RunsOk rs := fun q hq => ho q (by simp [hq])
    dsimp only at ho1
    have ih := fun S => bra_runs r rs S false f ho2 (.inr rfl) (by simp at hf; omega)
    -- how the rest begins
    have hnext : ∃ c t, rs.flatMap spanT ++ 93 :: r = c :: t ∧ c.toNat ≠ 45 := by
      cases rs with
      | nil => exact ⟨93, r, rfl, by decide⟩
      | cons p l =>
        have h1 := ho2 p (by simp)
        obtain ⟨c, t, e1, -, -, e2⟩ := shown_head p.1 (by omega)
        refine ⟨c, t ++ (if p.1 < p.2 then 45 :: shownE p.2 else []) ++ (l.flatMap spanT ++ 93 :: r), ?_, e2⟩
        simp [spanT, e1]
    obtain ⟨c, t, hc, hc45⟩ := hnext
    obtain ⟨c0, t0, e0, hk0, -, -⟩ := shown_head a (by omega)
    have htext : (((a, e) :: rs).flatMap spanT ++ 93 :: r) = shownE a ++ ((if a < e then 45 :: shownE e else []) ++ (rs.flatMap spanT ++ 93 :: r)) := by simp [spanT]
    have hcond : fst = true ∨ nextB (bl (((a, e) :: rs).flatMap spanT ++ 93 :: r)) ≠ 93 := by
      right
      rw [htext, e0, List.cons_append, nextB_cons]
      exact hk0.2.1
    rw [braL, if_pos hcond, htext, let_shown a (by omega)]
    dsimp only
    by_cases hae : a < e
    · rw [if_pos hae, List.cons_append, if_pos (isB_yes (by decide)), bl_tail, let_shown e ho1.2]
      dsimp only
      rw [if_neg (by omega), ih]; rfl
    · rw [if_neg hae, List.nil_append, if_neg (by rw [hc, isB_no hc45]; decide), ih]
      obtain rfl : a = e := by omega
      show some (foldR (spanS S a 1) rs, _) = some (foldR (spanS S a (a + 1 - a)) rs, _)
      rw [show a + 1 - a = 1 by omega]
theorem len_runs : ∀ rs : List (Nat × Nat), RunsOk rs → rs.length ≤ (rs.flatMap spanT).length
  | [], _ => by simp
  | p :: l, h => by
    have := len_runs l (fun q hq => h q (by simp [hq]))
    have h1 := h p (by simp)
    obtain ⟨c, t, e, -⟩ := shown_head p.1 (by omega)
    rw [List.flatMap_cons, List.length_append]
    have : 1 ≤ (spanT p).length := by simp [spanT, e]
    simp only [List.length_cons]; omega
/-- A set's text, read. -/
theorem atom_set (R : ByteArray → Option (Nd × ByteArray)) {S : List Nat} (hS : W64 S) (r : List UInt8) : atomE R (bl (spansE S ++ r)) = some (.mk 1 S [], bl r) := by
  have hok : RunsOk (scR S 0) := scanR_ok S _ _
  have hfold := fold_runs hS
  unfold spansE
  by_cases h0 : manyR (scR S 0) = 0
  · rw [if_pos h0]
    rw [many0 h0] at hfold
    have hS0 : S = noSet := hfold.symm
    subst hS0
    have e : noneT ++ r = 91 :: 94 :: ([(0, 255)].flatMap spanT ++ 93 :: r) := by
      have : noneT = 91 :: 94 :: ([(0, 255)].flatMap spanT ++ [93]) := by decide +kernel
      rw [this]; simp
    unfold atomE
    rw [e, tk_cons]
    dsimp only
    rw [if_neg (by decide), if_pos (by decide)]
    unfold braE
    rw [skip_yes (by decide), bra_runs r [(0, 255)] noSet true _ (by intro p hp; simp at hp; subst hp; decide) (.inl (by simp)) (by rw [bl_size]; simp only [List.length_cons, List.length_append, List.length_nil]; omega)]
    dsimp only
    rw [if_pos (isB_yes (by decide)), bl_tail]
    have : cmpJ (foldR noSet [(0, 255)]) 4 = noSet := by decide +kernel
    rw [this]
  · rw [if_neg h0]
    by_cases h1 : manyR (scR S 0) = 1
    · rw [if_pos h1]
      obtain ⟨b, hb, e⟩ := many1 hok h1
      rw [e] at hfold ⊢
      have : [(b, b)].flatMap spanT = shownE b := by simp [spanT]
      rw [this, atom_shown R b hb]
      rw [← hfold]
      show some (Nd.mk 1 (spanS noSet b 1) [], _) = some (Nd.mk 1 (spanS noSet b (b + 1 - b)) [], _)
      rw [show b + 1 - b = 1 by omega]
    · rw [if_neg h1]
      have hne : scR S 0 ≠ [] := fun e => h0 (by rw [e]; rfl)
      have hhead : ∃ c t, (scR S 0).flatMap spanT ++ 93 :: r = c :: t ∧ c.toNat ≠ 94 := by
        cases hrs : scR S 0 with
        | nil => exact absurd hrs hne
        | cons p l =>
          have h1 := hok p (by rw [hrs]; simp)
          obtain ⟨c, t, e1, -, e2, -⟩ := shown_head p.1 (by omega)
          refine ⟨c, t ++ (if p.1 < p.2 then 45 :: shownE p.2 else []) ++ (l.flatMap spanT ++ 93 :: r), ?_, e2⟩
          simp [spanT, e1]
      obtain ⟨c, t, hc, hc94⟩ := hhead
      have e : (91 :: ((scR S 0).flatMap spanT ++ [93]) ++ r) = 91 :: ((scR S 0).flatMap spanT ++ 93 :: r) := by simp
      have hlen := len_runs _ hok
      unfold atomE
      rw [e, tk_cons]
      dsimp only
      rw [if_neg (by decide), if_pos (by decide)]
      unfold braE
      rw [show skipS (bl ((scR S 0).flatMap spanT ++ 93 :: r)) 94 = bl ((scR S 0).flatMap spanT ++ 93 :: r) by rw [hc]; exact skip_no hc94,
        bra_runs r _ noSet true _ hok (.inl hne) (by rw [bl_size]; simp only [List.length_cons, List.length_append]; omega)]
      dsimp only
      rw [if_neg (by rw [hc, isB_no hc94]; decide), bl_tail, hfold]
      rfl
end Go.Proofs.YtfamoikmfbpigaaDoor
namespace Go.Proofs.YtfamoikmfbpigaaDoor
open Go.RowKit

/-- What is left of a text. -/
def rest (s : ByteArray) (i : Nat) : ByteArray := s.extract i s.size
def byI (s : ByteArray) (i : Nat) : Option Nat := if h : i < s.size then some (s[i].toNat) else none
theorem rest_size (s : ByteArray) (i : Nat) : (rest s i).size = s.size - i := by unfold rest; rw [ByteArray.size_extract]; omega
theorem rest_tail (s : ByteArray) (i : Nat) : (rest s i).extract 1 (rest s i).size = rest s (i + 1) := by
  rw [rest_size]
  unfold rest
  rw [ByteArray.extract_extract]
  by_cases h : i ≤ s.size
  · rw [show min (i + (s.size - i)) s.size = s.size by omega]
  · apply ByteArray.ext
    rw [ByteArray.data_extract, ByteArray.data_extract]
    apply Array.ext
    · simp; have : s.data.size = s.size := rfl; omega
    · intro j h1 h2
      simp at h2
      have : s.data.size = s.size := rfl
      omega
theorem tk_rest (s : ByteArray) (i : Nat) : tk (rest s i) = (byI s i).map fun b => (b, rest s (i + 1)) := by
  unfold tk byI
  by_cases h : i < s.size
  · rw [dif_pos h, dif_pos (by rw [rest_size]; omega), rest_tail]
    simp only [Option.map_some]
    congr 3
    unfold rest
    rw [ByteArray.getElem_extract]
    rfl
  · rw [dif_neg h, dif_neg (by rw [rest_size]; omega)]; rfl
theorem by_lt {s : ByteArray} {i b : Nat} (h : byI s i = some b) : i < s.size ∧ b < 256 ∧ atI s i = (b : Int) := by
  unfold byI at h
  split at h
  · rename_i hi
    injection h with h
    refine ⟨hi, by rw [← h]; exact s[i].toNat_lt, ?_⟩
    unfold atI
    rw [dif_pos hi, h]
  · cases h
theorem by_none {s : ByteArray} {i : Nat} (h : byI s i = none) : s.size ≤ i ∧ atI s i = -1 := by
  unfold byI at h
  split at h
  · cases h
  · rename_i hi
    exact ⟨by omega, by unfold atI; rw [dif_neg hi]⟩
/-- A letter at a place: which, and the place behind it. -/
def escI (s : ByteArray) (i : Nat) : Option (Nat × Nat) :=
  match byI s i with
  | none => none
  | some d => if d = 110 then some (10, i + 1) else if d = 116 then some (9, i + 1) else if d = 114 then some (13, i + 1)
    else if d = 120 then (match byI s (i + 1) with | none => none | some x => match digE x with | none => none | some h => match byI s (i + 2) with | none => none | some y => match digE y with | none => none | some l => some (h * 16 + l, i + 3))
    else if specE d = true then some (d, i + 1) else none
def lettI (inn : Bool) (s : ByteArray) (i : Nat) : Option (Nat × Nat) :=
  match byI s i with
  | none => none
  | some c => if c = 92 then escI s (i + 1) else if specE c = true ∧ (inn = true ∨ c ≠ 45 ∧ c ≠ 94) then none else some (c, i + 1)
theorem esc_rest (s : ByteArray) (i : Nat) : escE (rest s i) = (escI s i).map fun p => (p.1, rest s p.2) := by
  unfold escE escI
  rw [tk_rest]
  cases byI s i with
  | none => rfl
  | some d =>
    simp only [Option.map_some]
    by_cases h1 : d = 110
    · rw [if_pos h1, if_pos h1]; rfl
    rw [if_neg h1, if_neg h1]
    by_cases h2 : d = 116
    · rw [if_pos h2, if_pos h2]; rfl
    rw [if_neg h2, if_neg h2]
    by_cases h3 : d = 114
    · rw [if_pos h3, if_pos h3]; rfl
    rw [if_neg h3, if_neg h3]
    by_cases h4 : d = 120
    · rw [if_pos h4, if_pos h4, tk_rest]
      cases byI s (i + 1) with
      | none => rfl
      | some x =>
        simp only [Option.map_some]
        cases digE x with
        | none => rfl
        | some h =>
          simp only
          rw [tk_rest]
          cases byI s (i + 2) with
          | none => rfl
          | some y =>
            simp only [Option.map_some]
            cases digE y with
            | none => rfl
            | some l => rfl
    rw [if_neg h4, if_neg h4]
    split <;> rfl
theorem let_rest (s : ByteArray) (i : Nat) : letE (rest s i) = (lettI true s i).map fun p => (p.1, rest s p.2) := by
  unfold letE lettI
  rw [tk_rest]
  cases byI s i with
  | none => rfl
  | some c =>
    simp only [Option.map_some]
    by_cases h1 : c = 92
    · rw [if_pos h1, if_pos h1, esc_rest]
    · rw [if_neg h1, if_neg h1]
      simp only [true_or, and_true]
      split <;> rfl
def LetP (x : Option (Nat × Nat)) (w : World) (e : Ending) (w' : World) : Prop :=
  (match x with | some (b, k) => e = .returned (.tuple #[.int .u8 (b : Int), .int .i64 (k : Int)]) | none => e = .returned (.tuple #[.int .u8 0, .int .i64 (-1)])) ∧ Below w.heap.size w w'
theorem LetP.some {x : Option (Nat × Nat)} {b k : Nat} {bi ki : Int} {w : World} (h : x = .some (b, k)) (hb : bi = (b : Int)) (hk : ki = (k : Int)) : LetP x w (.returned (.tuple #[.int .u8 bi, .int .i64 ki])) w := by
  rw [h, hb, hk]; exact ⟨rfl, Below.refl _ _⟩
theorem LetP.someD {x : Option (Nat × Nat)} {b k : Nat} {bi ki : Int} {w : World} (h : x = .some (b, k)) (hb : bi = (b : Int)) (hk : ki = (k : Int)) : LetP x w (.returned (.tuple #[.int .u8 bi, .int .i64 ki])) w.drew := by
  rw [h, hb, hk]; exact ⟨rfl, (Below.refl _ _).drew⟩
theorem LetP.none {x : Option (Nat × Nat)} {w : World} (h : x = .none) : LetP x w (.returned (.tuple #[.int .u8 0, .int .i64 (-1)])) w := by
  rw [h]; exact ⟨rfl, Below.refl _ _⟩
theorem LetP.cases {x : Option (Nat × Nat)} {w : World} {e : Ending} {w' : World} (h : LetP x w e w') : Below w.heap.size w w' ∧ ((x = .none ∧ e = .returned (.tuple #[.int .u8 0, .int .i64 (-1)])) ∨ ∃ b k, x = .some (b, k) ∧ e = .returned (.tuple #[.int .u8 (b : Int), .int .i64 (k : Int)])) := by
  obtain ⟨h1, h2⟩ := h
  refine ⟨h2, ?_⟩
  cases x with
  | none => exact .inl ⟨rfl, h1⟩
  | some p => exact .inr ⟨p.1, p.2, rfl, h1⟩
theorem spec_110 : specE 110 = false ∧ specE 116 = false ∧ specE 114 = false ∧ specE 120 = false := by decide +kernel
set_option maxHeartbeats 4000000 in
set_option maxRecDepth 100000 in
theorem rlet_plain (inn : Bool) (s : ByteArray) (i : Nat) (w : World) (hs : s.size ≤ 100000) (hi : i ≤ 100000) (h92 : byI s i ≠ some 92) :
    Calls Tryd.prog 53 #[.string s, .int .i64 (i : Int), .bool inn] w (LetP (lettI inn s i) w) := by
  have HA := hide (rat_any s i w (by omega))
  cases hb : byI s i with
  | none =>
    have HN := hide (show lettI inn s i = none by unfold lettI; rw [hb])
    rw [(by_none hb).2] at HA
    clear hb h92
    go_enter Tryd.func53, Tryd.ntmps53
    go_wp2_with fail
    refine HA.out.mono ?_; rintro e w1 ⟨rfl, rfl⟩
    go_wp2
    go_ret2
    exact LetP.none HN.out
  | some c =>
    obtain ⟨-, hc, hat⟩ := by_lt hb
    rw [hat] at HA
    have hne : c ≠ 92 := fun e => h92 (by rw [hb, e])
    have q1 : ((c : Int) == 92) = false := by simp; omega
    have q0 : (0 : Int) ≤ (c : Int) := by omega
    have hwu : IntKind.u8.wrap (c : Int) = (c : Int) := by simp only [IntKind.wrap_u8]; omega
    have HSP := hide (rspecial_any c hc w)
    have hfin : lettI inn s i = if specE c = true ∧ (inn = true ∨ c ≠ 45 ∧ c ≠ 94) then none else some (c, i + 1) := by unfold lettI; rw [hb]; simp only; rw [if_neg hne]
    have HF := hide hfin
    have HNE := hide hne
    clear hb h92 hat hfin hne
    cases hsp : specE c with
    | false =>
      rw [hsp] at HSP HF
      have HR := hide (show lettI inn s i = some (c, i + 1) by rw [HF.out, if_neg (by simp)])
      clear HF hsp
      go_enter Tryd.func53, Tryd.ntmps53
      go_wp2_with fail
      refine HA.out.mono ?_; rintro e w1 ⟨rfl, rfl⟩
      go_wp2_with fail
      refine HSP.out.mono ?_; rintro e w1 ⟨rfl, rfl⟩
      go_wp2
      go_ret2
      exact LetP.some HR.out rfl (by go_num)
    | true =>
      rw [hsp] at HSP HF
      clear hsp
      cases inn with
      | true =>
        have HR := hide (show lettI true s i = none by rw [HF.out, if_pos ⟨rfl, .inl rfl⟩])
        clear HF
        go_enter Tryd.func53, Tryd.ntmps53
        go_wp2_with fail
        refine HA.out.mono ?_; rintro e w1 ⟨rfl, rfl⟩
        go_wp2_with fail
        refine HSP.out.mono ?_; rintro e w1 ⟨rfl, rfl⟩
        go_wp2
        go_ret2
        exact LetP.none HR.out
      | false =>
        by_cases c45 : c = 45
        · subst c45
          have HR := hide (show lettI false s i = some (45, i + 1) by rw [HF.out, if_neg (by simp)])
          clear HF
          go_enter Tryd.func53, Tryd.ntmps53
          go_wp2_with fail
          refine HA.out.mono ?_; rintro e w1 ⟨rfl, rfl⟩
          go_wp2_with fail
          refine HSP.out.mono ?_; rintro e w1 ⟨rfl, rfl⟩
          go_wp2
          go_ret2
          exact LetP.some HR.out rfl (by go_num)
        have q2 : ((c : Int) == 45) = false := by simp; omega
        by_cases c94 : c = 94
        · subst c94
          have HR := hide (show lettI false s i = some (94, i + 1) by rw [HF.out, if_neg (by simp)])
          clear HF
          go_enter Tryd.func53, Tryd.ntmps53
          go_wp2_with fail
          refine HA.out.mono ?_; rintro e w1 ⟨rfl, rfl⟩
          go_wp2_with fail
          refine HSP.out.mono ?_; rintro e w1 ⟨rfl, rfl⟩
          go_wp2
          go_ret2
          exact LetP.some HR.out rfl (by go_num)
        have q2' : ((c : Int) != 45) = true := by simp; omega
        have q3 : ((c : Int) != 94) = true := by simp; omega
        have HR := hide (show lettI false s i = none by rw [HF.out, if_pos ⟨rfl, .inr ⟨c45, c94⟩⟩])
        clear HF
        go_enter Tryd.func53, Tryd.ntmps53
        go_wp2_with fail
        refine HA.out.mono ?_; rintro e w1 ⟨rfl, rfl⟩
        go_wp2_with fail
        refine HSP.out.mono ?_; rintro e w1 ⟨rfl, rfl⟩
        go_wp2
        go_ret2
        exact LetP.none HR.out
set_option maxHeartbeats 4000000 in
set_option maxRecDepth 100000 in
theorem rlet_esc (inn : Bool) (s : ByteArray) (i : Nat) (w : World) (hs : s.size ≤ 100000) (hi : i ≤ 100000) (h92 : byI s i = some 92) :
    Calls Tryd.prog 53 #[.string s, .int .i64 (i : Int), .bool inn] w (LetP (lettI inn s i) w) := by
  have HA := hide (rat_any s i w (by omega))
  have HAn := hide (rat_any s (i + 1) w (by omega))
  rw [(by_lt h92).2.2] at HA
  have hl : lettI inn s i = escI s (i + 1) := by unfold lettI; rw [h92]; rfl
  rw [hl]
  have hi1 : i < s.size := (by_lt h92).1
  clear hl h92
  rw [show (((i + 1 : Nat) : Int)) = (i : Int) + 1 by omega] at HAn
  cases hd : byI s (i + 1) with
  | none =>
    have HN := hide (show escI s (i + 1) = none by unfold escI; rw [hd])
    rw [(by_none hd).2] at HAn
    clear hd
    go_enter Tryd.func53, Tryd.ntmps53
    go_wp2_with fail
    refine HA.out.mono ?_; rintro e w1 ⟨rfl, rfl⟩
    go_wp2_with fail
    refine HAn.out.mono ?_; rintro e w1 ⟨rfl, rfl⟩
    go_wp2
    go_ret2
    exact LetP.none HN.out
  | some d =>
    obtain ⟨hd1, hd2, hd3⟩ := by_lt hd
    rw [hd3] at HAn
    have q0 : (0 : Int) ≤ (d : Int) := by omega
    have hwu : IntKind.u8.wrap (d : Int) = (d : Int) := by simp only [IntKind.wrap_u8]; omega
    have he : escI s (i + 1) = if d = 110 then some (10, i + 1 + 1) else if d = 116 then some (9, i + 1 + 1) else if d = 114 then some (13, i + 1 + 1)
      else if d = 120 then (match byI s (i + 1 + 1) with | none => none | some x => match digE x with | none => none | some h => match byI s (i + 1 + 2) with | none => none | some y => match digE y with | none => none | some l => some (h * 16 + l, i + 1 + 3))
      else if specE d = true then some (d, i + 1 + 1) else none := by unfold escI; rw [hd]
    have HE := hide he
    have HSP := hide (rspecial_any d hd2 w)
    clear he hd hd3
    by_cases d110 : d = 110
    · subst d110
      have HR := hide (show escI s (i + 1) = some (10, i + 1 + 1) by rw [HE.out, if_pos rfl])
      go_enter Tryd.func53, Tryd.ntmps53
      go_wp2_with fail
      refine HA.out.mono ?_; rintro e w1 ⟨rfl, rfl⟩
      go_wp2_with fail
      refine HAn.out.mono ?_; rintro e w1 ⟨rfl, rfl⟩
      go_wp2
      go_ret2
      exact LetP.some HR.out rfl (by go_num)
    have q1 : ((d : Int) == 110) = false := by simp; omega
    by_cases d116 : d = 116
    · subst d116
      have HR := hide (show escI s (i + 1) = some (9, i + 1 + 1) by rw [HE.out, if_neg (by decide), if_pos rfl])
      go_enter Tryd.func53, Tryd.ntmps53
      go_wp2_with fail
      refine HA.out.mono ?_; rintro e w1 ⟨rfl, rfl⟩
      go_wp2_with fail
      refine HAn.out.mono ?_; rintro e w1 ⟨rfl, rfl⟩
      go_wp2
      go_ret2
      exact LetP.some HR.out rfl (by go_num)
    have q2 : ((d : Int) == 116) = false := by simp; omega
    by_cases d114 : d = 114
    · subst d114
      have HR := hide (show escI s (i + 1) = some (13, i + 1 + 1) by rw [HE.out, if_neg (by decide), if_neg (by decide), if_pos rfl])
      go_enter Tryd.func53, Tryd.ntmps53
      go_wp2_with fail
      refine HA.out.mono ?_; rintro e w1 ⟨rfl, rfl⟩
      go_wp2_with fail
      refine HAn.out.mono ?_; rintro e w1 ⟨rfl, rfl⟩
      go_wp2
      go_ret2
      exact LetP.some HR.out rfl (by go_num)
    have q3 : ((d : Int) == 114) = false := by simp; omega
    by_cases d120 : d = 120
    · subst d120
      have HSP2 := hide (show Calls Tryd.prog 63 #[.int .u8 120] w fun e w' => e = .returned (.bool false) ∧ w = w' from by have := HSP.out; rw [spec_110.2.2.2] at this; exact this)
      have HE2 := hide (show escI s (i + 1) = (match byI s (i + 1 + 1) with | none => none | some x => match digE x with | none => none | some h => match byI s (i + 1 + 2) with | none => none | some y => match digE y with | none => none | some l => some (h * 16 + l, i + 1 + 3)) by rw [HE.out, if_neg (by decide), if_neg (by decide), if_neg (by decide), if_pos rfl])
      clear HE HSP
      by_cases h3 : i + 3 < s.size
      · have h3' : (i : Int) + 3 < (s.size : Int) := by omega
        have hx : byI s (i + 1 + 1) = some s[i + 2].toNat := by unfold byI; rw [dif_pos (by omega)]
        have hy : byI s (i + 1 + 2) = some s[i + 3].toNat := by unfold byI; rw [dif_pos (by omega)]
        have HD1 := hide (fun W => rdigit_any s[i + 2].toNat s[i + 2].toNat_lt W)
        have HD2 := hide (fun W => rdigit_any s[i + 3].toNat s[i + 3].toNat_lt W)
        unfold digR at HD1 HD2
        rw [hx, hy] at HE2
        dsimp only at HE2
        clear hx hy
        cases hg1 : digE s[i + 2].toNat with
        | none =>
          rw [hg1] at HD1 HE2
          clear hg1
          go_enter Tryd.func53, Tryd.ntmps53
          go_wp2_with fail
          refine HA.out.mono ?_; rintro e w1 ⟨rfl, rfl⟩
          go_wp2_with fail
          refine HAn.out.mono ?_; rintro e w1 ⟨rfl, rfl⟩
          go_wp2_with fail
          refine (HD1.out _).mono ?_; rintro e w1 ⟨rfl, rfl⟩
          go_wp2_with fail
          refine HSP2.out.mono ?_; rintro e w1 ⟨rfl, rfl⟩
          go_wp2
          go_ret2
          exact LetP.none HE2.out
        | some g1 =>
          have hb1 := dig_bd s[i + 2].toNat_lt hg1
          rw [hg1] at HD1 HE2
          dsimp only at HD1 HE2
          clear hg1
          cases hg2 : digE s[i + 3].toNat with
          | none =>
            rw [hg2] at HD2 HE2
            clear hg2
            go_enter Tryd.func53, Tryd.ntmps53
            go_wp2_with fail
            refine HA.out.mono ?_; rintro e w1 ⟨rfl, rfl⟩
            go_wp2_with fail
            refine HAn.out.mono ?_; rintro e w1 ⟨rfl, rfl⟩
            go_wp2_with fail
            refine (HD1.out _).mono ?_; rintro e w1 ⟨rfl, rfl⟩
            go_wp2_with fail
            refine (HD2.out _).mono ?_; rintro e w1 ⟨rfl, rfl⟩
            go_wp2_with fail
            refine HSP2.out.mono ?_; rintro e w1 ⟨rfl, rfl⟩
            go_wp2
            go_ret2
            exact LetP.none HE2.out
          | some g2 =>
            have hb2 := dig_bd s[i + 3].toNat_lt hg2
            rw [hg2] at HD2 HE2
            dsimp only at HD2 HE2
            clear hg2
            have hwz : IntKind.u8.wrap ((g1 : Int) * 16 + (g2 : Int)) = ((g1 * 16 + g2 : Nat) : Int) := by simp only [IntKind.wrap_u8]; omega
            go_enter Tryd.func53, Tryd.ntmps53
            go_wp2_with fail
            refine HA.out.mono ?_; rintro e w1 ⟨rfl, rfl⟩
            go_wp2_with fail
            refine HAn.out.mono ?_; rintro e w1 ⟨rfl, rfl⟩
            go_wp2_with fail
            refine (HD1.out _).mono ?_; rintro e w1 ⟨rfl, rfl⟩
            go_wp2_with fail
            refine (HD2.out _).mono ?_; rintro e w1 ⟨rfl, rfl⟩
            go_wp2_with fail
            obtain ⟨p2, hp2⟩ : ∃ p, i + 2 = p := ⟨_, rfl⟩
            obtain ⟨p3, hp3⟩ : ∃ p, i + 3 = p := ⟨_, rfl⟩
            have i21 : IntKind.i64.wrap ((i : Int) + 2) = (p2 : Int) := (Go.wrap_small _ (by omega) (by omega)).trans (by omega)
            have i31 : IntKind.i64.wrap ((i : Int) + 3) = (p3 : Int) := (Go.wrap_small _ (by omega) (by omega)).trans (by omega)
            have n2 : p2 < s.size := by omega
            have n3 : p3 < s.size := by omega
            have HD1 := hide (show ∀ W, Calls Tryd.prog 64 #[.int .u8 ((s[p2]'n2).toNat : Int)] W fun e w' => e = .returned (.int .i64 (g1 : Int)) ∧ W = w' from fun W => by subst hp2; exact HD1.out W)
            have HD2 := hide (show ∀ W, Calls Tryd.prog 64 #[.int .u8 ((s[p3]'n3).toNat : Int)] W fun e w' => e = .returned (.int .i64 (g2 : Int)) ∧ W = w' from fun W => by subst hp3; exact HD2.out W)
            clear hp2 hp3
            refine wp_region_held_drew (S := fun _ => True) (by kernel_rfl) ?_ (fun hHeld => ?_)
            · exact trivial
            refine wpAnyH_at (i := 0) (v := ?vV0) (d := 76) rfl rfl (by kernel_rfl) (by kernel_rfl) (by kernel_rfl) (fun _ _ _ h => h) (Or.inl ⟨by rfl, fun w' hSw => ?hyV0⟩) (by assumption) ?restV0
            case hyV0 =>
              (try dsimp only at hSw)
              go_simp
              (try with_reducible rfl)
            (try simp only [Act.put, List.setIfInBounds_toArray, List.set_cons_zero, List.set_cons_succ])
            refine wpAnyH_at (i := 1) (v := ?vV1) (d := 77) rfl rfl (by kernel_rfl) (by kernel_rfl) (by kernel_rfl) (fun _ _ _ h => h) (Or.inl ⟨by rfl, fun w' hSw => ?hyV1⟩) (by assumption) ?restV1
            case hyV1 =>
              (try dsimp only at hSw)
              go_simp
              (try with_reducible rfl)
            (try simp only [Act.put, List.setIfInBounds_toArray, List.set_cons_zero, List.set_cons_succ])
            refine wpAnyH_at (i := 2) (v := ?vV2) (d := 78) rfl rfl (by kernel_rfl) (by kernel_rfl) (by kernel_rfl) (fun _ _ _ h => h) (Or.inl ⟨by rfl, fun w' hSw => ?hyV2⟩) (by assumption) ?restV2
            case hyV2 =>
              (try dsimp only at hSw)
              go_simp
              (try with_reducible rfl)
            (try simp only [Act.put, List.setIfInBounds_toArray, List.set_cons_zero, List.set_cons_succ])
            refine wpAnyH_at (i := 3) (v := ?vV3) (d := 79) rfl rfl (by kernel_rfl) (by kernel_rfl) (by kernel_rfl) (fun _ _ _ h => h) (Or.inl ⟨by rfl, fun w' hSw => ?hyV3⟩) (by assumption) ?restV3
            case hyV3 =>
              (try dsimp only at hSw)
              go_simp
              (try with_reducible rfl)
            (try simp only [Act.put, List.setIfInBounds_toArray, List.set_cons_zero, List.set_cons_succ])
            refine wpAnyH_at (i := 6) (v := ?vV6) (d := 82) rfl rfl (by kernel_rfl) (by kernel_rfl) (by kernel_rfl) (fun _ _ _ h => h) (Or.inl ⟨by rfl, fun w' hSw => ?hyV6⟩) (by assumption) ?restV6
            case hyV6 =>
              (try dsimp only at hSw)
              go_simp
              (try with_reducible rfl)
            (try simp only [Act.put, List.setIfInBounds_toArray, List.set_cons_zero, List.set_cons_succ])
            refine wpAnyH_at (i := 7) (v := ?vV7) (d := 83) rfl rfl (by kernel_rfl) (by kernel_rfl) (by kernel_rfl) (fun _ _ _ h => h) (Or.inl ⟨by rfl, fun w' hSw => ?hyV7⟩) (by assumption) ?restV7
            case hyV7 =>
              (try dsimp only at hSw)
              go_simp
              (try with_reducible rfl)
            (try simp only [Act.put, List.setIfInBounds_toArray, List.set_cons_zero, List.set_cons_succ])
            refine wpAnyH_at (i := 8) (v := ?vV8) (d := 84) rfl rfl (by kernel_rfl) (by kernel_rfl) (by kernel_rfl) (fun _ _ _ h => h) (Or.inl ⟨by rfl, fun w' hSw => ?hyV8⟩) (by assumption) ?restV8
            case hyV8 =>
              (try dsimp only at hSw)
              go_simp
              (try with_reducible rfl)
            (try simp only [Act.put, List.setIfInBounds_toArray, List.set_cons_zero, List.set_cons_succ])
            refine wpAnyH_at (i := 9) (v := ?vV9) (d := 85) rfl rfl (by kernel_rfl) (by kernel_rfl) (by kernel_rfl) (fun _ _ _ h => h) (Or.inl ⟨by rfl, fun w' hSw => ?hyV9⟩) (by assumption) ?restV9
            case hyV9 =>
              (try dsimp only at hSw)
              go_simp
              (try with_reducible rfl)
            (try simp only [Act.put, List.setIfInBounds_toArray, List.set_cons_zero, List.set_cons_succ])
            refine wpAnyH_at (i := 13) (v := ?vV13) (d := 89) rfl rfl (by kernel_rfl) (by kernel_rfl) (by kernel_rfl) (fun _ _ _ h => h) (Or.inl ⟨by rfl, fun w' hSw => ?hyV13⟩) (by assumption) ?restV13
            case hyV13 =>
              (try dsimp only at hSw)
              go_simp
              (try with_reducible rfl)
            (try simp only [Act.put, List.setIfInBounds_toArray, List.set_cons_zero, List.set_cons_succ])
            refine wpAnyH_at (i := 14) (v := ?vV14) (d := 90) rfl rfl (by kernel_rfl) (by kernel_rfl) (by kernel_rfl) (fun _ _ _ h => h) (Or.inl ⟨by rfl, fun w' hSw => ?hyV14⟩) (by assumption) ?restV14
            case hyV14 =>
              (try dsimp only at hSw)
              go_simp
              (try with_reducible rfl)
            (try simp only [Act.put, List.setIfInBounds_toArray, List.set_cons_zero, List.set_cons_succ])
            refine wpAnyH_ready (rs := [4]) (by kernel_rfl) (by simp) ?_
            refine AllReadyH.cons rfl (fun K' hK' => ?_) AllReadyH.nil
            go_simp
            go_at_call 64; refine (HD1.out _).mono ?_; rintro e w4 ⟨rfl, rfl⟩
            go_wp2_with fail
            refine hK'.out _ _ ?_ (fun hHeld => ?_)
            · exact trivial
            clear hK' K'
            (try simp only [Act.put, List.getElem_toArray, List.getElem_cons_succ, List.getElem_cons_zero, List.setIfInBounds_toArray, List.set_cons_zero, List.set_cons_succ])
            refine wpAnyH_at (i := 5) (v := ?vV5) (d := 81) rfl rfl (by kernel_rfl) (by kernel_rfl) (by kernel_rfl) (fun _ _ _ h => h) (Or.inl ⟨by rfl, fun w' hSw => ?hyV5⟩) (by assumption) ?restV5
            case hyV5 =>
              (try dsimp only at hSw)
              go_simp
              (try with_reducible rfl)
            (try simp only [Act.put, List.setIfInBounds_toArray, List.set_cons_zero, List.set_cons_succ])
            refine wpAnyH_ready (rs := [10]) (by kernel_rfl) (by simp) ?_
            refine AllReadyH.cons rfl (fun K' hK' => ?_) AllReadyH.nil
            go_simp
            go_at_call 64; refine (HD2.out _).mono ?_; rintro e w5 ⟨rfl, rfl⟩
            go_wp2_with fail
            refine hK'.out _ _ ?_ (fun hHeld => ?_)
            · exact trivial
            clear hK' K'
            (try simp only [Act.put, List.getElem_toArray, List.getElem_cons_succ, List.getElem_cons_zero, List.setIfInBounds_toArray, List.set_cons_zero, List.set_cons_succ])
            refine wpAnyH_at (i := 11) (v := ?vV11) (d := 87) rfl rfl (by kernel_rfl) (by kernel_rfl) (by kernel_rfl) (fun _ _ _ h => h) (Or.inl ⟨by rfl, fun w' hSw => ?hyV11⟩) (by assumption) ?restV11
            case hyV11 =>
              (try dsimp only at hSw)
              go_simp
              (try with_reducible rfl)
            (try simp only [Act.put, List.setIfInBounds_toArray, List.set_cons_zero, List.set_cons_succ])
            refine wpAnyH_at (i := 12) (v := ?vV12) (d := 88) rfl rfl (by kernel_rfl) (by kernel_rfl) (by kernel_rfl) (fun _ _ _ h => h) (Or.inl ⟨by rfl, fun w' hSw => ?hyV12⟩) (by assumption) ?restV12
            case hyV12 =>
              (try dsimp only at hSw)
              go_simp
              (try with_reducible rfl)
            (try simp only [Act.put, List.setIfInBounds_toArray, List.set_cons_zero, List.set_cons_succ])
            refine wpAnyH_at (i := 15) (v := ?vV15) (d := 6) rfl rfl (by kernel_rfl) (by kernel_rfl) (by kernel_rfl) (fun _ _ _ h => h) (Or.inl ⟨by rfl, fun w' hSw => ?hyV15⟩) (by assumption) ?restV15
            case hyV15 =>
              (try dsimp only at hSw)
              go_simp
              (try with_reducible rfl)
            (try simp only [Act.put, List.setIfInBounds_toArray, List.set_cons_zero, List.set_cons_succ])
            refine wpAnyH_at (i := 16) (v := ?vV16) (d := 7) rfl rfl (by kernel_rfl) (by kernel_rfl) (by kernel_rfl) (fun _ _ _ h => h) (Or.inl ⟨by rfl, fun w' hSw => ?hyV16⟩) (by assumption) ?restV16
            case hyV16 =>
              (try dsimp only at hSw)
              go_simp
              (try with_reducible rfl)
            (try simp only [Act.put, List.setIfInBounds_toArray, List.set_cons_zero, List.set_cons_succ])
            refine wpAnyH_done (by kernel_rfl) ?_ _
            go_wp2
            go_ret2
            have e8 : IntKind.u8.wrap (IntKind.i64.wrap (IntKind.i64.wrap ((g1 : Int) * 16) + (g2 : Int))) = ((g1 * 16 + g2 : Nat) : Int) := by
              rw [Go.wrap_small ((g1 : Int) * 16) (by omega) (by omega), Go.wrap_small _ (by omega) (by omega)]; exact hwz
            have e4 : IntKind.i64.wrap ((i : Int) + 4) = ((i + 1 + 3 : Nat) : Int) := (Go.wrap_small _ (by omega) (by omega)).trans (by omega)
            exact LetP.someD HE2.out e8 e4
      · have HN := hide (show escI s (i + 1) = none by
          rw [HE2.out]
          cases byI s (i + 1 + 1) with
          | none => rfl
          | some x =>
            simp only
            cases digE x with
            | none => rfl
            | some h =>
              simp only
              rw [show byI s (i + 1 + 2) = none by unfold byI; rw [dif_neg (by omega)]])
        have h3' : ¬ (i : Int) + 3 < (s.size : Int) := by omega
        clear HE2
        go_enter Tryd.func53, Tryd.ntmps53
        go_wp2_with fail
        refine HA.out.mono ?_; rintro e w1 ⟨rfl, rfl⟩
        go_wp2_with fail
        refine HAn.out.mono ?_; rintro e w1 ⟨rfl, rfl⟩
        go_wp2_with fail
        refine HSP2.out.mono ?_; rintro e w1 ⟨rfl, rfl⟩
        go_wp2
        go_ret2
        exact LetP.none HN.out
    have q4 : ((d : Int) == 120) = false := by simp; omega
    have HE2 := hide (show escI s (i + 1) = if specE d = true then some (d, i + 1 + 1) else none by rw [HE.out, if_neg d110, if_neg d116, if_neg d114, if_neg d120])
    clear HE d110 d116 d114 d120
    cases hsp : specE d with
    | true =>
      rw [hsp] at HE2 HSP
      replace HE2 := hide (HE2.out.trans (if_pos rfl))
      clear hsp
      go_enter Tryd.func53, Tryd.ntmps53
      go_wp2_with fail
      refine HA.out.mono ?_; rintro e w1 ⟨rfl, rfl⟩
      go_wp2_with fail
      refine HAn.out.mono ?_; rintro e w1 ⟨rfl, rfl⟩
      go_wp2_with fail
      refine HSP.out.mono ?_; rintro e w1 ⟨rfl, rfl⟩
      go_wp2
      go_ret2
      exact LetP.some HE2.out rfl (by go_num)
    | false =>
      rw [hsp] at HE2 HSP
      replace HE2 := hide (HE2.out.trans (if_neg (by decide)))
      clear hsp
      go_enter Tryd.func53, Tryd.ntmps53
      go_wp2_with fail
      refine HA.out.mono ?_; rintro e w1 ⟨rfl, rfl⟩
      go_wp2_with fail
      refine HAn.out.mono ?_; rintro e w1 ⟨rfl, rfl⟩
      go_wp2_with fail
      refine HSP.out.mono ?_; rintro e w1 ⟨rfl, rfl⟩
      go_wp2
      go_ret2
      exact LetP.none HE2.out
end Go.Proofs.YtfamoikmfbpigaaDoor
namespace Go.Proofs.YtfamoikmfbpigaaDoor
open Go.RowKit

/-- A slice of strings of the call's own. -/
def SRow (W : World) (B : Nat) (v : Value) (L : List ByteArray) : Prop := W.ownsRow B 9 1 v L.length (L.map Value.string)
theorem SRow.keep {w W : World} {B : Nat} {v : Value} {L : List ByteArray} (h : SRow w B v L) (hk : ∀ b, B ≤ b → b < w.heap.size → W.heap[b]? = w.heap[b]?) : SRow W B v L := by
  refine ⟨h.1, ?_⟩
  rcases h.2 with h0 | ⟨g, cap, cur, rfl, hg, hh, q⟩
  · exact .inl h0
  · exact .inr ⟨g, cap, cur, rfl, hg, (hk g hg (Array.getElem?_eq_some_iff.1 hh).1).trans hh, q⟩
theorem SRow.below {w W : World} {B : Nat} {v : Value} {L : List ByteArray} (h : SRow w B v L) (hb : Below w.heap.size w W) : SRow W B v L := h.keep fun b _ hlt => hb.block b hlt
theorem SRow.form {W : World} {B n : Nat} {v : Value} {L : List ByteArray} (h : SRow W B v L) (hn : L.length = n) : ∃ A c, v = .slice A n c ∧ n ≤ c ∧ c ≤ maxLen := by
  subst hn
  rcases h.2 with ⟨rfl, h0⟩ | ⟨g, cap, cur, rfl, hg, hh, q, qm, _⟩
  · exact ⟨_, _, by rw [h0], by omega, by unfold maxLen; omega⟩
  · exact ⟨_, _, rfl, q, qm⟩
theorem SRow.mono {W : World} {B C : Nat} {v : Value} {L : List ByteArray} (h : SRow W B v L) (hc : C ≤ B) : SRow W C v L := by
  refine ⟨h.1, ?_⟩
  rcases h.2 with h0 | ⟨g, cap, cur, rfl, hg, r⟩
  · exact .inl h0
  · exact .inr ⟨g, cap, cur, rfl, by omega, r⟩
theorem SRow.nil (W : World) (B : Nat) : SRow W B (.slice none 0 0) [] := ⟨rfl, .inl ⟨rfl, rfl⟩⟩
theorem SRow.get {W : World} {B : Nat} {A : Option Addr} {n c : Nat} {L : List ByteArray} (h : SRow W B (.slice A n c) L) {j : Nat} {s : ByteArray} (hj : L[j]? = some s) : ∃ b, A = some ⟨b, 0, none⟩ ∧ B ≤ b ∧ b < W.heap.size ∧ W.cell? ⟨b, j, none⟩ = some (.string s) := by
  rcases h.2 with ⟨h0, h1⟩ | ⟨g, cap, cur, h0, hg, hh, q⟩
  · have : L = [] := List.eq_nil_of_length_eq_zero h1
    subst this; simp at hj
  · injection h0 with e1 e2 e3
    subst e1
    refine ⟨g, rfl, hg, (Array.getElem?_eq_some_iff.1 hh).1, ?_⟩
    have hc := Go.World.ownsRow.cells (g := g) h rfl j (.string s) (by simp [hj])
    rw [← hc]
    congr 1
    unfold Addr.add
    split <;> simp_all
theorem info_strS : (Tryd.prog.info? 9).map (fun i => (i.zero, i.size, i.bytes)) = some (some (.string ⟨#[]⟩), 1, 16) := by kernel_rfl
theorem info_strS_parts : ∃ i, Tryd.prog.info? 9 = some i ∧ i.zero = some (.string ⟨#[]⟩) ∧ i.size = 1 ∧ i.bytes = 16 := by
  have h := info_strS
  cases hi : Tryd.prog.info? 9 with
  | none => rw [hi] at h; cases h
  | some i =>
    rw [hi] at h
    simp only [Option.map_some, Option.some.injEq, Prod.mk.injEq] at h
    exact ⟨i, rfl, h⟩
theorem one_strS (w : World) (s : ByteArray) : ∀ j u, ([.string s] : List Value)[j]? = some u → (w.alloc (.cells #[.string s] 9)).cell? ((⟨w.heap.size, 0, none⟩ : Addr).add j) = some u := by
  intro j u hu
  cases j with
  | zero => simp at hu; subst hu; simp [Addr.add]
  | succ j => simp at hu
theorem SRow.app {W : World} {B : Nat} {v : Value} {L : List ByteArray} {s : ByteArray} (h : W.ownsRow B 9 1 v (L.length + 1) (L.map Value.string ++ [.string s])) : SRow W B v (L ++ [s]) := by
  unfold SRow
  rw [List.length_append, List.map_append]
  exact h
end Go.Proofs.YtfamoikmfbpigaaDoor
