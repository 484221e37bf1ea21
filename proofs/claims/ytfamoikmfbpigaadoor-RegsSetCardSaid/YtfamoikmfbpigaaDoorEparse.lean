/- regs: Parse. -/
import Derived.Test.YtfamoikmfbpigaaDoorErows
import Derived.Tactics
import Derived.Tactics2
import Derived.Defers
import Derived.Recover
import Derived.Laws.Pointers
namespace Go.Proofs.YtfamoikmfbpigaaDoor
open Go.RowKit

def parseP (s : ByteArray) : Nd × Nat :=
  if 200 < s.size then (.mk 0 noSet [], 3)
  else match rowsE (s.size + 1) s with
    | none => (.mk 0 noSet [], 10)
    | some (n, t) => if t.size = 0 then (n, 0) else (.mk 0 noSet [], 10)
set_option maxRecDepth 100000 in
theorem catch_pan (z y : Nat) (k0 : Int) (a b c d : Nat) (v0 : Value) (n0 : Int) (older : List PanicEntry) (w : World) (hz : Blk w z 27 (ndL k0 [a, b, c, d] v0)) (hy : Blk w y 28 [.int .i64 n0]) (hzy : z ≠ y) :
    CallsD Tryd.prog 26 #[.pointer (some ⟨z, 0, none⟩), .pointer (some ⟨y, 0, none⟩)] (.panicking ({ v := .iface 57 (.agg #[]), recovered := false } :: older)) w fun e u' w' =>
      e = .returned (.tuple #[]) ∧ u' = .panicking ({ v := .iface 57 (.agg #[]), recovered := true } :: older) ∧ w' = (ndSet w z 0 0 0 0 0 (.slice none 0 0)).setCell ⟨y, 0, none⟩ (.int .i64 10) := by
  have r0 := hz.cell (i := 0) rfl
  have rf := fun i => hz.frozen i
  have r1 := hz.cell (i := 1) rfl
  have r2 := hz.cell (i := 2) rfl
  have r3 := hz.cell (i := 3) rfl
  have r4 := hz.cell (i := 4) rfl
  have r5 := hz.cell (i := 5) rfl
  have s0 := hy.cell (i := 0) rfl
  have hyz := Ne.symm hzy
  have sf := hy.frozen 0
  refine callsD_of_wpS Tryd.func26 rfl fun c₀ cs hu => ?_
  apply wpS_seq
  apply wpS_region
  simp [wpOpsS, go_sem, recoverD, hu, Tryd.ntmps26, Exit.thenS]
  apply wpS_seq
  apply wpS_region
  simp [wpOpsS, go_sem, Exit.thenS]
  refine wpS_cond (t := true) (by simp [Act.eval, Array.replicate]) ?_
  simp only [if_true]
  apply wpS_seq
  apply wpS_region
  simp [wpOpsS, go_sem, Exit.thenS]
  apply wpS_region
  simp [wpOpsS, go_sem, bodyPostS, results, r0, r1, r2, r3, r4, r5, rf, s0, sf, hzy, hyz, Tryd.results26, ndSet]
theorem catch_none (z y : Nat) (w : World) :
    CallsD Tryd.prog 26 #[.pointer (some ⟨z, 0, none⟩), .pointer (some ⟨y, 0, none⟩)] .returning w fun e u' w' => e = .returned (.tuple #[]) ∧ u' = .returning ∧ w' = w := by
  refine callsD_of_wpS Tryd.func26 rfl fun c₀ cs hu => ?_
  apply wpS_seq
  apply wpS_region
  simp [wpOpsS, go_sem, recoverD, hu, Tryd.ntmps26, Exit.thenS]
  apply wpS_seq
  apply wpS_region
  simp [wpOpsS, go_sem, Exit.thenS]
  refine wpS_cond (t := false) (by simp [Act.eval, Array.replicate]) ?_
  simp only [Bool.false_eq_true, if_false]
  refine wpS_of_wp (wp_skip ?_)
  cases c₀
  simp_all [bodyPostS, results, Tryd.results26]
/-- What Parse's three boxes are. -/
def PaW (w W : World) (s : ByteArray) : Prop := Blk W w.heap.size 27 (ndL 0 noSet (.slice none 0 0)) ∧ Blk W (w.heap.size + 1) 28 [.int .i64 0] ∧ Rd W (w.heap.size + 1 + 1) s ∧ Below w.heap.size w W
theorem pa_new (w : World) (s : ByteArray) : PaW w (((w.alloc (.cells (ndL 0 noSet (.slice none 0 0)).toArray 27)).alloc (.cells [.int .i64 0].toArray 28)).alloc (.cells [.string s].toArray 60)) s := by
  have e1 : (w.alloc (.cells (ndL 0 noSet (.slice none 0 0)).toArray 27)).heap.size = w.heap.size + 1 := by simp
  have e2 : ((w.alloc (.cells (ndL 0 noSet (.slice none 0 0)).toArray 27)).alloc (.cells [.int .i64 0].toArray 28)).heap.size = w.heap.size + 1 + 1 := by simp
  have b1 : Below w.heap.size w (w.alloc (.cells (ndL 0 noSet (.slice none 0 0)).toArray 27)) := (Below.refl _ _).alloc (Nat.le_refl _) _
  obtain ⟨W1, h1⟩ : ∃ W, w.alloc (.cells (ndL 0 noSet (.slice none 0 0)).toArray 27) = W := ⟨_, rfl⟩
  have k1 : Blk W1 w.heap.size 27 (ndL 0 noSet (.slice none 0 0)) := by rw [← h1]; exact Blk.new _ _ _
  rw [h1] at e1 e2 b1 ⊢
  have b2 : Below W1.heap.size W1 (W1.alloc (.cells [.int .i64 0].toArray 28)) := (Below.refl _ _).alloc (Nat.le_refl _) _
  obtain ⟨W2, h2⟩ : ∃ W, W1.alloc (.cells [.int .i64 0].toArray 28) = W := ⟨_, rfl⟩
  have k2 : Blk W2 (w.heap.size + 1) 28 [.int .i64 0] := by rw [← h2, ← e1]; exact Blk.new _ _ _
  rw [h2] at e2 b2 ⊢
  have b3 : Below W2.heap.size W2 (W2.alloc (.cells [.string s].toArray 60)) := (Below.refl _ _).alloc (Nat.le_refl _) _
  refine ⟨(k1.below b2).below b3, k2.below b3, ?_, ((b1.trans (b2.mono b1.size)).trans (b3.mono (by omega)))⟩
  rw [← e2]
  exact Blk.new _ _ _
theorem results_pa (tmps : Array Value) (w : World) (z y : Nat) (cs : List Value) (n : Int) (hp : tmps.getD 2 undef = .pointer (some ⟨z, 0, none⟩)) (hq : tmps.getD 3 undef = .pointer (some ⟨y, 0, none⟩)) (hz : Blk w z 27 cs) (h6 : cs.length = 6) (hy : Blk w y 28 [.int .i64 n]) :
    (results Tryd.f10 tmps).run Tryd.prog w = .ok (.tuple #[.agg cs.toArray, .int .i64 n]) w := by
  have hp' : tmps[2]?.getD undef = .pointer (some ⟨z, 0, none⟩) := by simpa using hp
  have hq' : tmps[3]?.getD undef = .pointer (some ⟨y, 0, none⟩) := by simpa using hq
  have hl1 := run_loadVar_row w z 27 27 cs.toArray (0, 0) _ hz Tryd.underlying27 rfl (by
    have : (Tryd.prog.info? 27).map (·.size) = some 6 := by kernel_rfl
    rw [this]; simp [h6])
  have hc := hy.cell (i := 0) rfl
  have hl2 : (loadVar 28 ⟨y, 0, none⟩).run Tryd.prog w = .ok (.int .i64 n) w := by simp [go_sem, hc]
  simp [results, Tryd.results10, hp', hq', asAddr, hl1, hl2]
set_option maxHeartbeats 2000000 in
set_option maxRecDepth 100000 in
theorem parse_long (s : ByteArray) (w : World) (hm : 200 < s.size) (hM : s.size ≤ 1000000) :
    Calls Tryd.prog 10 #[.string s] w fun e w' => ∃ cs, e = .returned (.tuple #[.agg cs.toArray, .int .i64 ((parseP s).2 : Int)]) ∧ NdAt w.heap.size w' (parseP s).1 cs ∧ Below w.heap.size w w' := by
  have HP := hide (show parseP s = (.mk 0 noSet [], 3) by unfold parseP; rw [if_pos hm])
  have q1 : (200 : Int) < (s.size : Int) := by omega
  have e1 : (w.alloc (.cells (ndL 0 noSet (.slice none 0 0)).toArray 27)).heap.size = w.heap.size + 1 := by simp
  have b1 : Below w.heap.size w (w.alloc (.cells (ndL 0 noSet (.slice none 0 0)).toArray 27)) := (Below.refl _ _).alloc (Nat.le_refl _) _
  obtain ⟨W1, h1⟩ : ∃ W, w.alloc (.cells (ndL 0 noSet (.slice none 0 0)).toArray 27) = W := ⟨_, rfl⟩
  have k1 : Blk W1 w.heap.size 27 (ndL 0 noSet (.slice none 0 0)) := by rw [← h1]; exact Blk.new _ _ _
  rw [h1] at e1 b1
  have b2 : Below W1.heap.size W1 (W1.alloc (.cells [.int .i64 3].toArray 28)) := (Below.refl _ _).alloc (Nat.le_refl _) _
  obtain ⟨W2, h2⟩ : ∃ W, W1.alloc (.cells [.int .i64 3].toArray 28) = W := ⟨_, rfl⟩
  have k2 : Blk W2 (w.heap.size + 1) 28 [.int .i64 3] := by rw [← h2, ← e1]; exact Blk.new _ _ _
  rw [h2] at b2
  have K1 := hide (k1.below b2)
  have K2 := hide k2
  have KB := hide (b1.trans (b2.mono b1.size))
  have hmf : ∀ (fn : Fn) (first cap : Array Value) (w : World), (Instr.makeFunc fn first cap).run Tryd.prog w = .ok (.func fn first cap) w := fun _ _ _ _ => rfl
  clear e1 b1 b2 k1 k2
  have H1 := hide h1
  have H2 := hide h2
  clear h1 h2
  go_enter_defers Tryd.func10, Tryd.ntmps10
  go_wp2
  rw [show w.alloc (.cells #[.int .i64 0, .int .u64 0, .int .u64 0, .int .u64 0, .int .u64 0, .slice none 0 0] 27) = W1 from H1.out]
  rw [show W1.alloc (.cells #[.int .i64 3] 28) = W2 from H2.out]
  refine ⟨_, results_pa _ _ w.heap.size (w.heap.size + 1) _ 3 rfl rfl K1.out rfl K2.out, _, by rw [HP.out]; rfl, by rw [HP.out]; exact NdAt.leaf _ _ 0 noSet_w, KB.out⟩
/-- A call that ends at the door by the panic. -/
theorem door_pan (z y : Nat) (k0 : Int) (a b c d : Nat) (v0 : Value) (n0 : Int) (tmps : Array Value) (w w0 : World) (s : ByteArray) (hP : parseP s = (.mk 0 noSet [], 10)) (hp : tmps.getD 2 undef = .pointer (some ⟨z, 0, none⟩)) (hq : tmps.getD 3 undef = .pointer (some ⟨y, 0, none⟩)) (hz : Blk w z 27 (ndL k0 [a, b, c, d] v0)) (hy : Blk w y 28 [.int .i64 n0]) (hzy : z ≠ y)
    (hw : Below w0.heap.size w0 w) (h1 : w0.heap.size ≤ z) (h2 : w0.heap.size ≤ y) :
    bodyPostD Tryd.prog Tryd.f10 (fun e w' => ∃ cs, e = .returned (.tuple #[.agg cs.toArray, .int .i64 ((parseP s).2 : Int)]) ∧ NdAt w0.heap.size w' (parseP s).1 cs ∧ Below w0.heap.size w0 w')
      (.panic [{ v := .iface 57 (.agg #[]), recovered := false }]) { tmps := tmps, defers := [{ target := .fn (.func 26) #[.pointer (some ⟨z, 0, none⟩), .pointer (some ⟨y, 0, none⟩)], args := #[] }] } w := by
  refine leaves_cons (f := 26) (args := #[.pointer (some ⟨z, 0, none⟩), .pointer (some ⟨y, 0, none⟩)]) (by simp) (by simp [go_sem]) ?_
  refine (catch_pan z y k0 a b c d v0 n0 [] w hz hy hzy).mono ?_
  rintro e u' w'' ⟨rfl, rfl, rfl⟩
  have k1 : Blk ((ndSet w z 0 0 0 0 0 (.slice none 0 0)).setCell ⟨y, 0, none⟩ (.int .i64 10)) z 27 (ndL 0 [0, 0, 0, 0] (.slice none 0 0)) := (KeepR.set y _ _).blk (nd_putA hz 0 0 0 0 0 (.slice none 0 0)) hzy
  have k2 : Blk ((ndSet w z 0 0 0 0 0 (.slice none 0 0)).setCell ⟨y, 0, none⟩ (.int .i64 10)) y 28 [.int .i64 10] := ((nd_keep w z 0 0 0 0 0 (.slice none 0 0)).blk hy (Ne.symm hzy)).set 0 _
  exact ⟨_, results_pa tmps _ z y _ 10 hp hq k1 rfl k2, _, by rw [hP]; rfl, by rw [hP]; exact NdAt.leaf _ _ 0 noSet_w, BelowKeep (BelowKeep hw (nd_keep w z 0 0 0 0 0 (.slice none 0 0)) h1) (KeepR.set y _ _) h2⟩
theorem door_ok (z y : Nat) (n : Nd) (cs : List Value) (B : Nat) (tmps : Array Value) (w w0 : World) (s : ByteArray) (hP : parseP s = (n, 0)) (hp : tmps.getD 2 undef = .pointer (some ⟨z, 0, none⟩)) (hq : tmps.getD 3 undef = .pointer (some ⟨y, 0, none⟩)) (hz : Blk w z 27 cs) (hn : NdAt B w n cs) (hB : w0.heap.size ≤ B) (hy : Blk w y 28 [.int .i64 0])
    (hw : Below w0.heap.size w0 w) :
    bodyPostD Tryd.prog Tryd.f10 (fun e w' => ∃ cs, e = .returned (.tuple #[.agg cs.toArray, .int .i64 ((parseP s).2 : Int)]) ∧ NdAt w0.heap.size w' (parseP s).1 cs ∧ Below w0.heap.size w0 w')
      .ret { tmps := tmps, defers := [{ target := .fn (.func 26) #[.pointer (some ⟨z, 0, none⟩), .pointer (some ⟨y, 0, none⟩)], args := #[] }] } w := by
  refine leaves_cons (f := 26) (args := #[.pointer (some ⟨z, 0, none⟩), .pointer (some ⟨y, 0, none⟩)]) (by simp) (by simp [go_sem]) ?_
  refine (catch_none z y w).mono ?_
  rintro e u' w'' ⟨rfl, rfl, rfl⟩
  exact ⟨_, results_pa tmps _ z y _ 0 hp hq hz hn.len hy, cs, by rw [hP]; rfl, by rw [hP]; exact hn.low hB, hw⟩
set_option maxHeartbeats 2000000 in
set_option maxRecDepth 100000 in
theorem parse_bad (r : Nat) (s : ByteArray) (w : World) (hm : s.size ≤ 200) (hS : SGr r w) (hn : rowsE (s.size + 1) s = none) :
    Calls Tryd.prog 10 #[.string s] w fun e w' => ∃ cs, e = .returned (.tuple #[.agg cs.toArray, .int .i64 ((parseP s).2 : Int)]) ∧ NdAt w.heap.size w' (parseP s).1 cs ∧ Below w.heap.size w w' := by
  have HP := hide (show parseP s = (.mk 0 noSet [], 10) by unfold parseP; rw [if_neg (by omega), hn])
  have q1 : ¬ (200 : Int) < (s.size : Int) := by omega
  have hmf : ∀ (fn : Fn) (first cap : Array Value) (w : World), (Instr.makeFunc fn first cap).run Tryd.prog w = .ok (.func fn first cap) w := fun _ _ _ _ => rfl
  have hgw : 1 < w.heap.size := World.block_lt_of_cell? _ _ hS.1
  have hrw := hS.lt
  have HW := hide (pa_new w s)
  have HSG := hide (hS.below HW.out.2.2.2)
  have HR := rows_any r (w.heap.size + 1 + 1) (by omega) (by omega) (s.size + 1) s _ (by omega) HW.out.2.2.1 (by omega) HSG.out
  rw [hn] at HR
  have HR := hide HR
  clear hS hn
  go_enter_defers Tryd.func10, Tryd.ntmps10
  go_wp2_with fail
  refine HR.out.mono ?_; rintro e w4 ⟨rfl, h4⟩
  go_wp2
  exact door_pan w.heap.size (w.heap.size + 1) 0 0 0 0 0 (.slice none 0 0) 0 _ w4 w s HP.out rfl rfl (h4.blk HW.out.1 (by omega)) (h4.blk HW.out.2.1 (by omega)) (by omega) (BelowKeep HW.out.2.2.2 h4 (by omega)) (by omega) (by omega)
set_option maxHeartbeats 2000000 in
set_option maxRecDepth 100000 in
theorem parse_some (r : Nat) (s : ByteArray) (w : World) (hm : s.size ≤ 200) (hS : SGr r w) (n : Nd) (t : ByteArray) (hn : rowsE (s.size + 1) s = some (n, t)) :
    Calls Tryd.prog 10 #[.string s] w fun e w' => ∃ cs, e = .returned (.tuple #[.agg cs.toArray, .int .i64 ((parseP s).2 : Int)]) ∧ NdAt w.heap.size w' (parseP s).1 cs ∧ Below w.heap.size w w' := by
  have HP := hide (show parseP s = if t.size = 0 then (n, 0) else (.mk 0 noSet [], 10) by unfold parseP; rw [if_neg (by omega), hn])
  have q1 : ¬ (200 : Int) < (s.size : Int) := by omega
  have hmf : ∀ (fn : Fn) (first cap : Array Value) (w : World), (Instr.makeFunc fn first cap).run Tryd.prog w = .ok (.func fn first cap) w := fun _ _ _ _ => rfl
  have hgw : 1 < w.heap.size := World.block_lt_of_cell? _ _ hS.1
  have hrw := hS.lt
  have HW := hide (pa_new w s)
  have HSG := hide (hS.below HW.out.2.2.2)
  have HR := rows_any r (w.heap.size + 1 + 1) (by omega) (by omega) (s.size + 1) s _ (by omega) HW.out.2.2.1 (by omega) HSG.out
  rw [hn] at HR
  have HR := hide HR
  clear hS hn
  go_enter_defers Tryd.func10, Tryd.ntmps10
  go_wp2_with fail
  refine HR.out.mono ?_; rintro e w4 hr
  rcases hr.cases with ⟨hx, -⟩ | ⟨n', t', k, x0, x1, x2, x3, A, m, cap, hx, rfl, hn, h3, h4⟩
  · cases hx
  · injection hx with hx; injection hx with e1 e2; subst e1 e2
    have K0 := hide (h4.blk HW.out.1 (by omega))
    have K1 := hide (h4.blk HW.out.2.1 (by omega))
    have KB := hide (BelowKeep HW.out.2.2.2 h4 (by omega))
    have HN := hide hn
    have H3 := hide h3
    have hz4 := HW.out.2.2.1.lt
    have hz5 : w.heap.size + 1 + 1 < w4.heap.size := h3.lt
    obtain ⟨B, hB⟩ : ∃ B, (((w.alloc (.cells (ndL 0 noSet (.slice none 0 0)).toArray 27)).alloc (.cells [.int .i64 0].toArray 28)).alloc (.cells [.string s].toArray 60)).heap.size = B := ⟨_, rfl⟩
    rw [hB] at HN hz4
    clear hr h3 h4 hn HW HSG HR hB
    have a0 := K0.out.cell (i := 0) rfl
    have a1 := K0.out.cell (i := 1) rfl
    have a2 := K0.out.cell (i := 2) rfl
    have a3 := K0.out.cell (i := 3) rfl
    have a4 := K0.out.cell (i := 4) rfl
    have a5 := K0.out.cell (i := 5) rfl
    have af := fun i => K0.out.frozen i
    have r0 := H3.out.cell (i := 0) rfl
    have s0 := K1.out.cell (i := 0) rfl
    have sf := K1.out.frozen 0
    have hk := nd_keep w4 w.heap.size k x0 x1 x2 x3 (.slice A m cap)
    by_cases ht : t.size = 0
    · rw [if_pos ht] at HP
      obtain rfl := is_emp ht
      clear ht
      go_wp2
      have k1 := nd_putA K0.out k x0 x1 x2 x3 (.slice A m cap)
      have k2 := nd_putA k1 k x0 x1 x2 x3 (.slice A m cap)
      have hk2 := nd_keep (ndSet w4 w.heap.size k x0 x1 x2 x3 (.slice A m cap)) w.heap.size k x0 x1 x2 x3 (.slice A m cap)
      have y2 := hk2.blk (hk.blk K1.out (by omega)) (by omega)
      exact door_ok w.heap.size (w.heap.size + 1) n _ B _ _ w s HP.out rfl rfl ((KeepR.set (w.heap.size + 1) _ _).blk k2 (by omega)) (((HN.out.keepZ (by omega) hk).keepZ (by omega) hk2).keepZ (by omega) (KeepR.set (w.heap.size + 1) _ _)) (by omega) (y2.set 0 _) (BelowKeep (BelowKeep (BelowKeep KB.out hk (Nat.le_refl _)) hk2 (Nat.le_refl _)) (KeepR.set (w.heap.size + 1) _ _) (by omega))
    · rw [if_neg ht] at HP
      have he := ne_emp ht
      clear ht
      go_wp2
      exact door_pan w.heap.size (w.heap.size + 1) k x0 x1 x2 x3 (.slice A m cap) 0 _ _ w s HP.out rfl rfl (nd_putA K0.out k x0 x1 x2 x3 (.slice A m cap)) (hk.blk K1.out (by omega)) (by omega) (BelowKeep KB.out hk (Nat.le_refl _)) (Nat.le_refl _) (by omega)
theorem parse_any (r : Nat) (s : ByteArray) (w : World) (hM : s.size ≤ 1000000) (hS : SGr r w) :
    Calls Tryd.prog 10 #[.string s] w fun e w' => ∃ cs, e = .returned (.tuple #[.agg cs.toArray, .int .i64 ((parseP s).2 : Int)]) ∧ NdAt w.heap.size w' (parseP s).1 cs ∧ Below w.heap.size w w' := by
  by_cases hm : 200 < s.size
  · exact parse_long s w hm hM
  · cases hn : rowsE (s.size + 1) s with
    | none => exact parse_bad r s w (by omega) hS hn
    | some x => obtain ⟨n, t⟩ := x; exact parse_some r s w (by omega) hS n t hn
end Go.Proofs.YtfamoikmfbpigaaDoor
