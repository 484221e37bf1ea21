/- Contracts of Tick and Waiting of keys. -/
import Derived.Test.YtiilgeinkocanaaDoorKseq
namespace Go.Proofs.YtiilgeinkocanaaDoor
open Go.RowKit

theorem beqB (s t : ByteArray) : (s == t) = decide (s = t) := by
  obtain ⟨a⟩ := s
  obtain ⟨b⟩ := t
  show (a == b) = _
  rw [Bool.eq_iff_iff, beq_iff_eq, decide_eq_true_eq]
  simp
theorem info_strK : (Tryd.prog.info? 9).map (·.comparable) = some true := by kernel_rfl
theorem equalIface (d : Nat) (s t : ByteArray) (w : World) : (Op.equalIn (d + 2) 20 (.iface 9 (.string s)) (.iface 9 (.string t))).run Tryd.prog w = .ok (s == t) w := by
  obtain ⟨i, hi, hc⟩ := Option.map_eq_some_iff.1 info_strK
  simp [Op.equalIn, run_underlying Tryd.underlying20, run_underlying Tryd.underlying9, typeInfo, hi, hc]
theorem equalOther (d : Nat) (u : Value) (t : ByteArray) (w : World) : (Op.equalIn (d + 2) 20 (.iface 53 u) (.iface 9 (.string t))).run Tryd.prog w = .ok false w := by
  simp [Op.equalIn, run_underlying Tryd.underlying20]
@[go_sem high] theorem neqIface (s t : ByteArray) (w : World) : (binOp .neq 20 (.iface 9 (.string s)) (.iface 9 (.string t))).run Tryd.prog w = .ok (.bool (!(s == t))) w := by
  simp only [binOp]
  simp [Op.equal, Op.maxDepth, equalIface 9998]
@[go_sem high] theorem neqOther (u : Value) (t : ByteArray) (w : World) : (binOp .neq 20 (.iface 53 u) (.iface 9 (.string t))).run Tryd.prog w = .ok (.bool true) w := by
  simp only [binOp]
  simp [Op.equal, Op.maxDepth, equalOther 9998]
theorem ret_boolK {a b : Bool} (h : a = b) : Ending.returned (.bool a) = .returned (.bool b) := by rw [h]
set_option maxRecDepth 100000 in
theorem waiting_str (D : Nat) (s : ByteArray) (w : World) (h : w.cell? ⟨D, 0, none⟩ = some (.iface 9 (.string s))) : Calls Tryd.prog 17 #[.pointer (some ⟨D, 0, none⟩)] w fun e w' => e = .returned (.bool (decide (0 < s.size))) ∧ w = w' := by
  obtain ⟨b, hb⟩ : ∃ b, (s == (⟨#[]⟩ : ByteArray)) = b := ⟨_, rfl⟩
  have HB := hide (show decide (0 < s.size) = !b by
    rw [← hb, beqB, Bool.eq_iff_iff]
    simp only [decide_eq_true_eq, Bool.not_eq_true', decide_eq_false_iff_not]
    constructor
    · intro h1 e; rw [e] at h1; exact absurd h1 (by decide)
    · intro h1; exact Nat.pos_of_ne_zero (fun e => h1 (size0 e)))
  go_enter Tryd.func17, Tryd.ntmps17
  go_wp2_with fail
  refine (none_any D _ _ _ h).mono ?_
  rintro e w1 ⟨rfl, rfl⟩
  go_wp2_with fail
  go_ret
  exact ⟨ret_boolK HB.out.symm, rfl⟩
theorem waiting_paste (D : Nat) (u : Value) (w : World) (h : w.cell? ⟨D, 0, none⟩ = some (.iface 53 u)) : Calls Tryd.prog 17 #[.pointer (some ⟨D, 0, none⟩)] w fun e w' => e = .returned (.bool true) ∧ w = w' := by
  go_enter Tryd.func17, Tryd.ntmps17
  go_wp2_with fail
  refine (none_any D _ _ _ h).mono ?_
  rintro e w1 ⟨rfl, rfl⟩
  go_wp2_with fail
  go_ret
  exact ⟨rfl, rfl⟩
@[go_sem high] theorem asStr (s : ByteArray) (xT : TypeId) (b : Bool) (w : World) : (Instr.typeAssert (.iface 9 (.string s)) xT 9 b).run Tryd.prog w = .ok (if b then .tuple #[.string s, .bool true] else .string s) w := by
  simp [Instr.typeAssert, run_underlying Tryd.underlying9]
@[go_sem high] theorem asStrNo (u : Value) (xT : TypeId) (w : World) : (Instr.typeAssert (.iface 53 u) xT 9 true).run Tryd.prog w = .ok (.tuple #[.string ⟨#[]⟩, .bool false]) w := by
  simp [Instr.typeAssert, run_underlying Tryd.underlying9]
@[go_sem high] theorem asPaste (u : Value) (xT : TypeId) (b : Bool) (w : World) : (Instr.typeAssert (.iface 53 u) xT 53 b).run Tryd.prog w = .ok (if b then .tuple #[u, .bool true] else u) w := by
  simp [Instr.typeAssert, run_underlying Tryd.underlying53]
@[go_sem high] theorem asPasteNo (s : ByteArray) (xT : TypeId) (w : World) : (Instr.typeAssert (.iface 9 (.string s)) xT 53 true).run Tryd.prog w = .ok (.tuple #[.pointer none, .bool false]) w := by
  simp [Instr.typeAssert, run_underlying Tryd.underlying53]
/-- What any step leaves, whatever it began with. -/
def FPost (D : Nat) (F : List Nat) (p : KS × List Ky) (w : World) (e : Ending) (w' : World) : Prop :=
  ∃ v, e = .returned v ∧ OwnK w' w.heap.size v p.2 ∧ (p.2 = [] → v = .slice none 0 0) ∧ (∃ F', DecAt w' D F' p.1 ∧ ∀ k ∈ F', k ∈ F ∨ w.heap.size ≤ k) ∧ Ex F w w'
theorem fp_of {D : Nat} {p : KS × List Ky} {w w' : World} {e : Ending} (h : SPost D p w e w') : FPost D [D] p w e w' := by
  obtain ⟨v, he, h1, h2, ⟨F, h3, h4⟩, h5⟩ := h
  exact ⟨v, he, h1, h2, ⟨F, h3, fun k hk => by rcases h4 k hk with e | e; exact .inl (by simp [e]); exact .inr e⟩, h5⟩
theorem empty_tl {s : ByteArray} (b : Bool) (h : decide (s.size = 0) = b) : s.toList.isEmpty = b := by
  rw [← h, ByteArray.toList_eq, Bool.eq_iff_iff]
  simp only [List.isEmpty_iff, decide_eq_true_eq]
  constructor
  · intro h1; have := congrArg List.length h1; simpa using this
  · intro h1; rw [size0 h1]
set_option maxRecDepth 100000 in
set_option maxHeartbeats 1000000 in
theorem tick_str (D : Nat) (s : ByteArray) (w : World) (h : Blk w D 46 [.iface 9 (.string s)]) : Calls Tryd.prog 18 #[.pointer (some ⟨D, 0, none⟩)] w (SPost D (tickK (false, s)) w) := by
  have h0 := h.cell (i := 0) rfl
  have HD := hide h
  clear h
  by_cases hz : s.size = 0
  · have hs := size0 hz
    subst hs
    go_enter Tryd.func18, Tryd.ntmps18
    go_wp2_with fail
    refine (none_any D _ _ _ h0).mono ?_
    rintro e w1 ⟨rfl, rfl⟩
    go_wp2_with fail
    go_ret
    exact ⟨_, rfl, OwnK.nil _ _, fun _ => rfl, ⟨[D], .inl ⟨rfl, rfl, HD.out⟩, fun k hk => .inl (by simpa using hk)⟩, Ex.refl _ _⟩
  have e1 : s.toList.isEmpty = false := empty_tl false (by simpa using hz)
  by_cases hs : s = escS
  · have e2 : (s.toList == [27]) = true := str_eqK (decide_eq_true hs)
    have HR := hide (show tickK (false, s) = stays (⟨#[]⟩, kOne 5) by unfold tickK; rw [if_neg (by simp), if_neg hz, if_pos hs]; rfl)
    clear hs hz
    go_enter Tryd.func18, Tryd.ntmps18
    go_wp2_with fail
    refine (none_any D _ _ _ h0).mono ?_
    rintro e w1 ⟨rfl, rfl⟩
    go_wp2_with fail
    refine (one_any 5 _).mono ?_
    rintro e w2 ⟨rfl, rfl⟩
    have HD2 := hide (HD.out.alloc (.cells #[.int .i64 5, .int .i32 0, .string ⟨#[]⟩] 26))
    go_wp2_with fail
    refine (done_any D _ _ _ HD2.out).mono ?_
    rintro e w3 ⟨rfl, rfl⟩
    go_wp2_with fail
    go_ret
    rw [HR.out]
    exact sp_of (wk_mk ((lit_own (k := ⟨5, 0, ⟨#[]⟩⟩) (Nat.le_refl _)).off HD2.out decKey _ _) (fun e => by cases e) (HD2.out.set 0 _) (ex_set (ex_alloc (Ex.refl _ _) _) _ _))
  · have e2 : (s.toList == [27]) = false := str_eqK (decide_eq_false hs)
    have HR := hide (show tickK (false, s) = stays (⟨#[]⟩, kBad s) by unfold tickK; rw [if_neg (by simp), if_neg hz, if_neg hs]; rfl)
    clear hs hz
    go_enter Tryd.func18, Tryd.ntmps18
    go_wp2_with fail
    refine (none_any D _ _ _ h0).mono ?_
    rintro e w1 ⟨rfl, rfl⟩
    go_wp2_with fail
    refine (invalid_any s _).mono ?_
    rintro e w2 ⟨rfl, rfl⟩
    have HD2 := hide (HD.out.alloc (.cells #[.int .i64 0, .int .i32 0, .string s] 26))
    go_wp2_with fail
    refine (done_any D _ _ _ HD2.out).mono ?_
    rintro e w3 ⟨rfl, rfl⟩
    go_wp2_with fail
    go_ret
    rw [HR.out]
    exact sp_of (wk_mk ((lit_own (k := ⟨0, 0, s⟩) (Nat.le_refl _)).off HD2.out decKey _ _) (fun e => by cases e) (HD2.out.set 0 _) (ex_set (ex_alloc (Ex.refl _ _) _) _ _))
set_option maxRecDepth 100000 in
theorem tick_pasting (D : Nat) (u : Value) (w : World) (h : w.cell? ⟨D, 0, none⟩ = some (.iface 53 u)) : Calls Tryd.prog 18 #[.pointer (some ⟨D, 0, none⟩)] w fun e w' => e = .returned (.slice none 0 0) ∧ w = w' := by
  go_enter Tryd.func18, Tryd.ntmps18
  go_wp2_with fail
  refine (none_any D _ _ _ h).mono ?_
  rintro e w1 ⟨rfl, rfl⟩
  go_wp2_with fail
  go_ret
  exact ⟨rfl, rfl⟩
/-- Contract of Tick. -/
theorem tick_any (D : Nat) (F : List Nat) (st : KS) (w : World) (h : DecAt w D F st) : Calls Tryd.prog 18 #[.pointer (some ⟨D, 0, none⟩)] w (FPost D F (tickK st) w) := by
  obtain ⟨b, s⟩ := st
  have h' := h
  rcases h with ⟨hb, rfl, h1⟩ | ⟨hb, q, v, hF, h1, -⟩
  · dsimp only at hb h1
    subst hb
    exact (tick_str D s w h1).mono fun e w' hp => fp_of hp
  · dsimp only at hb
    subst hb
    exact (tick_pasting D _ w (h1.cell (i := 0) rfl)).mono fun e w' ⟨he, hw⟩ => ⟨_, he, OwnK.nil _ _, fun _ => rfl, ⟨F, hw ▸ h', fun k hk => .inl hk⟩, hw ▸ Ex.refl _ _⟩
/-- Contract of Waiting. -/
theorem waiting_any (D : Nat) (F : List Nat) (st : KS) (w : World) (h : DecAt w D F st) : Calls Tryd.prog 17 #[.pointer (some ⟨D, 0, none⟩)] w fun e w' => e = .returned (.bool (waitsK st)) ∧ w = w' := by
  obtain ⟨b, s⟩ := st
  rcases h with ⟨hb, rfl, h1⟩ | ⟨hb, q, v, hF, h1, -⟩
  · dsimp only at hb h1
    subst hb
    exact waiting_str D s w (h1.cell (i := 0) rfl)
  · dsimp only at hb
    subst hb
    exact waiting_paste D _ w (h1.cell (i := 0) rfl)
end Go.Proofs.YtiilgeinkocanaaDoor
