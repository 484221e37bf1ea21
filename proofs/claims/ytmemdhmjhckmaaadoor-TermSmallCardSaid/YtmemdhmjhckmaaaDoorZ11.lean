/- Contract of utf8.FullRuneInString: are bytes no beginning of a rune, fewer than it has? Contract of parser.begins: are bytes a beginning of a rune? -/
import Derived.Test.YtmemdhmjhckmaaaDoorZ10
import Derived.Test.YtmemdhmjhckmaaaDoorZ9
import Derived.Deep.QuietTactic
import Derived.BigQuiet
namespace Go.Proofs.YtmemdhmjhckmaaaDoor
open Go.RowKit Go.Lib

theorem below_drewA {B : Nat} {a w : World} (h : Below B a w) (n : Nat) : Below B a (w.drewN n) := ⟨h.os, h.tape, h.output, h.size, h.block⟩
theorem ret_bool {a b : Bool} (h : a = b) : Ending.returned (.bool a) = .returned (.bool b) := by rw [h]
theorem full_leaf {s : ByteArray} {b : Bool} {x0 x1 x2 : UInt8} (h0 : 0 < s.size) (g0 : s.get! 0 = x0) (g1 : s.get! 1 = x1) (g2 : s.get! 2 = x2)
    (h : b = !decide (s.size < needN x0.toNat ∧ (1 < s.size → loN x0.toNat ≤ x1.toNat ∧ x1.toNat ≤ hiN x0.toNat) ∧ (2 < s.size → 128 ≤ x2.toNat ∧ x2.toNat ≤ 191))) : b = !begB s := by
  rw [h]
  unfold begB
  rw [g0, g1, g2]
  congr 1
  exact decide_eq_decide.2 ⟨fun h => ⟨h0, h⟩, fun h => h.2⟩

theorem lead_of {b v : Nat} (hv : firstT b = v) : (v = 240 ∨ v = 241 → needN b = 1) ∧ (v = 2 → needN b = 2 ∧ loN b = 128 ∧ hiN b = 191) ∧ (v = 3 → needN b = 3 ∧ loN b = 128 ∧ hiN b = 191) ∧ (v = 19 → needN b = 3 ∧ loN b = 160 ∧ hiN b = 191) ∧ (v = 35 → needN b = 3 ∧ loN b = 128 ∧ hiN b = 159) ∧ (v = 4 → needN b = 4 ∧ loN b = 128 ∧ hiN b = 191) ∧ (v = 52 → needN b = 4 ∧ loN b = 144 ∧ hiN b = 191) ∧ (v = 68 → needN b = 4 ∧ loN b = 128 ∧ hiN b = 143) := by
  unfold firstT at hv
  unfold needN loN hiN
  revert hv
  (repeat' split) <;> intro hv <;> omega
set_option maxHeartbeats 4000000 in
set_option maxRecDepth 100000 in
theorem full_240 (s : ByteArray) (w : World) (hT : UTabs w) (h0 : 0 < s.size) (hX : firstT (s.get! 0).toNat = 240) :
    Calls Tryd.prog 91 #[.string s] w fun e w' => e = .returned (.bool (!begB s)) ∧ Below w.heap.size w w' := by
  have hz0 : (0 : Int) < (s.size : Int) := by omega
  obtain ⟨x0, hx0⟩ : ∃ x0, s.get! 0 = x0 := ⟨_, rfl⟩
  obtain ⟨x1, hx1⟩ : ∃ x1, s.get! 1 = x1 := ⟨_, rfl⟩
  obtain ⟨x2, hx2⟩ : ∃ x2, s.get! 2 = x2 := ⟨_, rfl⟩
  have hs0 : s[0]'(by omega) = x0 := by rw [← hx0]; exact (get_of h0).symm
  have HL := fun (b : Bool) => full_leaf (b := b) h0 hx0 hx1 hx2
  have l0 := x0.toNat_lt; have l1 := x1.toNat_lt; have l2 := x2.toNat_lt
  have hc0 := hT.1 x0.toNat (by omega)
  rw [hx0] at hX
  have hlead := lead_of hX
  rw [hX] at hc0
  have hn := hlead.1 (by omega)
  have h9 : ¬ s.size < 1 := by omega
  have HN := hide (show true = !decide (s.size < needN x0.toNat ∧ (1 < s.size → loN x0.toNat ≤ x1.toNat ∧ x1.toNat ≤ hiN x0.toNat) ∧ (2 < s.size → 128 ≤ x2.toNat ∧ x2.toNat ≤ 191)) by rw [hn]; simp [h9])
  have HL2 := hide HL
  clear hlead hT hX hn hx0 hx1 hx2 HL h9
  go_enter Tryd.func91, Tryd.ntmps91
  go_wp2
  go_ret
  exact ⟨ret_bool (HL2.out _ HN.out), Below.refl _ _⟩
set_option maxHeartbeats 4000000 in
set_option maxRecDepth 100000 in
theorem full_241 (s : ByteArray) (w : World) (hT : UTabs w) (h0 : 0 < s.size) (hX : firstT (s.get! 0).toNat = 241) :
    Calls Tryd.prog 91 #[.string s] w fun e w' => e = .returned (.bool (!begB s)) ∧ Below w.heap.size w w' := by
  have hz0 : (0 : Int) < (s.size : Int) := by omega
  obtain ⟨x0, hx0⟩ : ∃ x0, s.get! 0 = x0 := ⟨_, rfl⟩
  obtain ⟨x1, hx1⟩ : ∃ x1, s.get! 1 = x1 := ⟨_, rfl⟩
  obtain ⟨x2, hx2⟩ : ∃ x2, s.get! 2 = x2 := ⟨_, rfl⟩
  have hs0 : s[0]'(by omega) = x0 := by rw [← hx0]; exact (get_of h0).symm
  have HL := fun (b : Bool) => full_leaf (b := b) h0 hx0 hx1 hx2
  have l0 := x0.toNat_lt; have l1 := x1.toNat_lt; have l2 := x2.toNat_lt
  have hc0 := hT.1 x0.toNat (by omega)
  rw [hx0] at hX
  have hlead := lead_of hX
  rw [hX] at hc0
  have hn := hlead.1 (by omega)
  have h9 : ¬ s.size < 1 := by omega
  have HN := hide (show true = !decide (s.size < needN x0.toNat ∧ (1 < s.size → loN x0.toNat ≤ x1.toNat ∧ x1.toNat ≤ hiN x0.toNat) ∧ (2 < s.size → 128 ≤ x2.toNat ∧ x2.toNat ≤ 191)) by rw [hn]; simp [h9])
  have HL2 := hide HL
  clear hlead hT hX hn hx0 hx1 hx2 HL h9
  go_enter Tryd.func91, Tryd.ntmps91
  go_wp2
  go_ret
  exact ⟨ret_bool (HL2.out _ HN.out), Below.refl _ _⟩
set_option maxHeartbeats 4000000 in
set_option maxRecDepth 100000 in
theorem full_2 (s : ByteArray) (w : World) (hT : UTabs w) (h0 : 0 < s.size) (hX : firstT (s.get! 0).toNat = 2) :
    Calls Tryd.prog 91 #[.string s] w fun e w' => e = .returned (.bool (!begB s)) ∧ Below w.heap.size w w' := by
  have hz0 : (0 : Int) < (s.size : Int) := by omega
  obtain ⟨x0, hx0⟩ : ∃ x0, s.get! 0 = x0 := ⟨_, rfl⟩
  obtain ⟨x1, hx1⟩ : ∃ x1, s.get! 1 = x1 := ⟨_, rfl⟩
  obtain ⟨x2, hx2⟩ : ∃ x2, s.get! 2 = x2 := ⟨_, rfl⟩
  have hs0 : s[0]'(by omega) = x0 := by rw [← hx0]; exact (get_of h0).symm
  have HL := fun (b : Bool) => full_leaf (b := b) h0 hx0 hx1 hx2
  have l0 := x0.toNat_lt; have l1 := x1.toNat_lt; have l2 := x2.toNat_lt
  have hc0 := hT.1 x0.toNat (by omega)
  rw [hx0] at hX
  have hlead := lead_of hX
  rw [hX] at hc0
  have ha0 := (hT.2 0 (by omega)).1
  have ha1 := (hT.2 0 (by omega)).2
  simp only [accLo, accHi, Nat.reduceMul, Nat.reduceAdd, Nat.reduceEqDiff, if_true, if_false] at ha0 ha1
  obtain ⟨n1, n2, n3⟩ := hlead.2.1 rfl
  rw [n1, n2, n3] at HL
  have HL2 := hide HL
  clear hlead hT hX HL n1 n2 n3
  by_cases hn : 2 ≤ s.size
  · have hnz : (2 : Int) ≤ (s.size : Int) := by omega
    clear hx0 hx1 hx2
    go_enter Tryd.func91, Tryd.ntmps91
    go_wp2
    go_ret
    exact ⟨ret_bool (HL2.out _ (by simp; omega)), Below.refl _ _⟩
  · have HZ := hide (show s.size = 1 by omega)
    have z1 : (s.size : Int) < 2 := by omega
    have z2 : ¬ (1 : Int) < (s.size : Int) := by omega
    have z5 : ¬ 1 < s.size := by omega
    have z4 : decide ((1 : Int) < (s.size : Int)) = false := by simp; omega
    have z3 : ¬ (2 : Int) < (s.size : Int) := by omega
    clear hx0 hx1 hx2
    go_enter Tryd.func91, Tryd.ntmps91
    go_wp2
    go_quiet (fail)
    go_wp2
    all_goals (go_ret; refine ⟨ret_bool (HL2.out _ ?_), below_drewA ((Below.refl _ _).alloc (Nat.le_refl _) _) _⟩; rw [HZ.out]; simp <;> omega)
set_option maxHeartbeats 4000000 in
set_option maxRecDepth 100000 in
theorem full_19 (s : ByteArray) (w : World) (hT : UTabs w) (h0 : 0 < s.size) (hX : firstT (s.get! 0).toNat = 19) :
    Calls Tryd.prog 91 #[.string s] w fun e w' => e = .returned (.bool (!begB s)) ∧ Below w.heap.size w w' := by
  have hz0 : (0 : Int) < (s.size : Int) := by omega
  obtain ⟨x0, hx0⟩ : ∃ x0, s.get! 0 = x0 := ⟨_, rfl⟩
  obtain ⟨x1, hx1⟩ : ∃ x1, s.get! 1 = x1 := ⟨_, rfl⟩
  obtain ⟨x2, hx2⟩ : ∃ x2, s.get! 2 = x2 := ⟨_, rfl⟩
  have hs0 : s[0]'(by omega) = x0 := by rw [← hx0]; exact (get_of h0).symm
  have HL := fun (b : Bool) => full_leaf (b := b) h0 hx0 hx1 hx2
  have l0 := x0.toNat_lt; have l1 := x1.toNat_lt; have l2 := x2.toNat_lt
  have hc0 := hT.1 x0.toNat (by omega)
  rw [hx0] at hX
  have hlead := lead_of hX
  rw [hX] at hc0
  have ha0 := (hT.2 1 (by omega)).1
  have ha1 := (hT.2 1 (by omega)).2
  simp only [accLo, accHi, Nat.reduceMul, Nat.reduceAdd, Nat.reduceEqDiff, if_true, if_false] at ha0 ha1
  obtain ⟨n1, n2, n3⟩ := hlead.2.2.2.1 rfl
  rw [n1, n2, n3] at HL
  have HL2 := hide HL
  clear hlead hT hX HL n1 n2 n3
  by_cases hn : 3 ≤ s.size
  · have hnz : (3 : Int) ≤ (s.size : Int) := by omega
    clear hx0 hx1 hx2
    go_enter Tryd.func91, Tryd.ntmps91
    go_wp2
    go_ret
    exact ⟨ret_bool (HL2.out _ (by simp; omega)), Below.refl _ _⟩
  by_cases hk1 : s.size = 1
  · have HZ := hide (show s.size = 1 by omega)
    have z1 : (s.size : Int) < 3 := by omega
    have z2 : ¬ (1 : Int) < (s.size : Int) := by omega
    have z3 : ¬ (2 : Int) < (s.size : Int) := by omega
    clear hx0 hx1 hx2
    go_enter Tryd.func91, Tryd.ntmps91
    go_wp2
    go_quiet (fail)
    go_wp2
    all_goals (go_ret; refine ⟨ret_bool (HL2.out _ ?_), below_drewA ((Below.refl _ _).alloc (Nat.le_refl _) _) _⟩; rw [HZ.out]; simp <;> omega)
  · by_cases ta : x1.toNat < 160
    · have HZ := hide (show s.size = 2 by omega)
      have z1 : (s.size : Int) < 3 := by omega
      have z2 : (1 : Int) < (s.size : Int) := by omega
      have z3 : ¬ (2 : Int) < (s.size : Int) := by omega
      have hs1 : s[1]'(by omega) = x1 := by rw [← hx1]; exact (get_of (by omega)).symm
      have ta2 : (x1.toNat : Int) < 160 := by omega
      clear hx0 hx1 hx2
      go_enter Tryd.func91, Tryd.ntmps91
      go_wp2
      go_quiet (fail)
      go_wp2
      all_goals (go_ret; refine ⟨ret_bool (HL2.out _ ?_), below_drewA ((Below.refl _ _).alloc (Nat.le_refl _) _) _⟩; rw [HZ.out]; simp <;> omega)
    by_cases tb : 191 < x1.toNat
    · have HZ := hide (show s.size = 2 by omega)
      have z1 : (s.size : Int) < 3 := by omega
      have z2 : (1 : Int) < (s.size : Int) := by omega
      have z3 : ¬ (2 : Int) < (s.size : Int) := by omega
      have hs1 : s[1]'(by omega) = x1 := by rw [← hx1]; exact (get_of (by omega)).symm
      have ta2 : ¬ (x1.toNat : Int) < 160 := by omega
      have tb2 : (191 : Int) < (x1.toNat : Int) := by omega
      clear hx0 hx1 hx2
      go_enter Tryd.func91, Tryd.ntmps91
      go_wp2
      go_quiet (fail)
      go_wp2
      all_goals (go_ret; refine ⟨ret_bool (HL2.out _ ?_), below_drewA ((Below.refl _ _).alloc (Nat.le_refl _) _) _⟩; rw [HZ.out]; simp <;> omega)
    · have HZ := hide (show s.size = 2 by omega)
      have z1 : (s.size : Int) < 3 := by omega
      have z2 : (1 : Int) < (s.size : Int) := by omega
      have z3 : ¬ (2 : Int) < (s.size : Int) := by omega
      have hs1 : s[1]'(by omega) = x1 := by rw [← hx1]; exact (get_of (by omega)).symm
      have ta2 : ¬ (x1.toNat : Int) < 160 := by omega
      have tb2 : ¬ (191 : Int) < (x1.toNat : Int) := by omega
      clear hx0 hx1 hx2
      go_enter Tryd.func91, Tryd.ntmps91
      go_wp2
      go_quiet (fail)
      go_wp2
      all_goals (go_ret; refine ⟨ret_bool (HL2.out _ ?_), below_drewA ((Below.refl _ _).alloc (Nat.le_refl _) _) _⟩; rw [HZ.out]; simp <;> omega)
set_option maxHeartbeats 4000000 in
set_option maxRecDepth 100000 in
theorem full_3 (s : ByteArray) (w : World) (hT : UTabs w) (h0 : 0 < s.size) (hX : firstT (s.get! 0).toNat = 3) :
    Calls Tryd.prog 91 #[.string s] w fun e w' => e = .returned (.bool (!begB s)) ∧ Below w.heap.size w w' := by
  have hz0 : (0 : Int) < (s.size : Int) := by omega
  obtain ⟨x0, hx0⟩ : ∃ x0, s.get! 0 = x0 := ⟨_, rfl⟩
  obtain ⟨x1, hx1⟩ : ∃ x1, s.get! 1 = x1 := ⟨_, rfl⟩
  obtain ⟨x2, hx2⟩ : ∃ x2, s.get! 2 = x2 := ⟨_, rfl⟩
  have hs0 : s[0]'(by omega) = x0 := by rw [← hx0]; exact (get_of h0).symm
  have HL := fun (b : Bool) => full_leaf (b := b) h0 hx0 hx1 hx2
  have l0 := x0.toNat_lt; have l1 := x1.toNat_lt; have l2 := x2.toNat_lt
  have hc0 := hT.1 x0.toNat (by omega)
  rw [hx0] at hX
  have hlead := lead_of hX
  rw [hX] at hc0
  have ha0 := (hT.2 0 (by omega)).1
  have ha1 := (hT.2 0 (by omega)).2
  simp only [accLo, accHi, Nat.reduceMul, Nat.reduceAdd, Nat.reduceEqDiff, if_true, if_false] at ha0 ha1
  obtain ⟨n1, n2, n3⟩ := hlead.2.2.1 rfl
  rw [n1, n2, n3] at HL
  have HL2 := hide HL
  clear hlead hT hX HL n1 n2 n3
  by_cases hn : 3 ≤ s.size
  · have hnz : (3 : Int) ≤ (s.size : Int) := by omega
    clear hx0 hx1 hx2
    go_enter Tryd.func91, Tryd.ntmps91
    go_wp2
    go_ret
    exact ⟨ret_bool (HL2.out _ (by simp; omega)), Below.refl _ _⟩
  by_cases hk1 : s.size = 1
  · have HZ := hide (show s.size = 1 by omega)
    have z1 : (s.size : Int) < 3 := by omega
    have z2 : ¬ (1 : Int) < (s.size : Int) := by omega
    have z3 : ¬ (2 : Int) < (s.size : Int) := by omega
    clear hx0 hx1 hx2
    go_enter Tryd.func91, Tryd.ntmps91
    go_wp2
    go_quiet (fail)
    go_wp2
    all_goals (go_ret; refine ⟨ret_bool (HL2.out _ ?_), below_drewA ((Below.refl _ _).alloc (Nat.le_refl _) _) _⟩; rw [HZ.out]; simp <;> omega)
  · by_cases ta : x1.toNat < 128
    · have HZ := hide (show s.size = 2 by omega)
      have z1 : (s.size : Int) < 3 := by omega
      have z2 : (1 : Int) < (s.size : Int) := by omega
      have z3 : ¬ (2 : Int) < (s.size : Int) := by omega
      have hs1 : s[1]'(by omega) = x1 := by rw [← hx1]; exact (get_of (by omega)).symm
      have ta2 : (x1.toNat : Int) < 128 := by omega
      clear hx0 hx1 hx2
      go_enter Tryd.func91, Tryd.ntmps91
      go_wp2
      go_quiet (fail)
      go_wp2
      all_goals (go_ret; refine ⟨ret_bool (HL2.out _ ?_), below_drewA ((Below.refl _ _).alloc (Nat.le_refl _) _) _⟩; rw [HZ.out]; simp <;> omega)
    by_cases tb : 191 < x1.toNat
    · have HZ := hide (show s.size = 2 by omega)
      have z1 : (s.size : Int) < 3 := by omega
      have z2 : (1 : Int) < (s.size : Int) := by omega
      have z3 : ¬ (2 : Int) < (s.size : Int) := by omega
      have hs1 : s[1]'(by omega) = x1 := by rw [← hx1]; exact (get_of (by omega)).symm
      have ta2 : ¬ (x1.toNat : Int) < 128 := by omega
      have tb2 : (191 : Int) < (x1.toNat : Int) := by omega
      clear hx0 hx1 hx2
      go_enter Tryd.func91, Tryd.ntmps91
      go_wp2
      go_quiet (fail)
      go_wp2
      all_goals (go_ret; refine ⟨ret_bool (HL2.out _ ?_), below_drewA ((Below.refl _ _).alloc (Nat.le_refl _) _) _⟩; rw [HZ.out]; simp <;> omega)
    · have HZ := hide (show s.size = 2 by omega)
      have z1 : (s.size : Int) < 3 := by omega
      have z2 : (1 : Int) < (s.size : Int) := by omega
      have z3 : ¬ (2 : Int) < (s.size : Int) := by omega
      have hs1 : s[1]'(by omega) = x1 := by rw [← hx1]; exact (get_of (by omega)).symm
      have ta2 : ¬ (x1.toNat : Int) < 128 := by omega
      have tb2 : ¬ (191 : Int) < (x1.toNat : Int) := by omega
      clear hx0 hx1 hx2
      go_enter Tryd.func91, Tryd.ntmps91
      go_wp2
      go_quiet (fail)
      go_wp2
      all_goals (go_ret; refine ⟨ret_bool (HL2.out _ ?_), below_drewA ((Below.refl _ _).alloc (Nat.le_refl _) _) _⟩; rw [HZ.out]; simp <;> omega)
set_option maxHeartbeats 4000000 in
set_option maxRecDepth 100000 in
theorem full_35 (s : ByteArray) (w : World) (hT : UTabs w) (h0 : 0 < s.size) (hX : firstT (s.get! 0).toNat = 35) :
    Calls Tryd.prog 91 #[.string s] w fun e w' => e = .returned (.bool (!begB s)) ∧ Below w.heap.size w w' := by
  have hz0 : (0 : Int) < (s.size : Int) := by omega
  obtain ⟨x0, hx0⟩ : ∃ x0, s.get! 0 = x0 := ⟨_, rfl⟩
  obtain ⟨x1, hx1⟩ : ∃ x1, s.get! 1 = x1 := ⟨_, rfl⟩
  obtain ⟨x2, hx2⟩ : ∃ x2, s.get! 2 = x2 := ⟨_, rfl⟩
  have hs0 : s[0]'(by omega) = x0 := by rw [← hx0]; exact (get_of h0).symm
  have HL := fun (b : Bool) => full_leaf (b := b) h0 hx0 hx1 hx2
  have l0 := x0.toNat_lt; have l1 := x1.toNat_lt; have l2 := x2.toNat_lt
  have hc0 := hT.1 x0.toNat (by omega)
  rw [hx0] at hX
  have hlead := lead_of hX
  rw [hX] at hc0
  have ha0 := (hT.2 2 (by omega)).1
  have ha1 := (hT.2 2 (by omega)).2
  simp only [accLo, accHi, Nat.reduceMul, Nat.reduceAdd, Nat.reduceEqDiff, if_true, if_false] at ha0 ha1
  obtain ⟨n1, n2, n3⟩ := hlead.2.2.2.2.1 rfl
  rw [n1, n2, n3] at HL
  have HL2 := hide HL
  clear hlead hT hX HL n1 n2 n3
  by_cases hn : 3 ≤ s.size
  · have hnz : (3 : Int) ≤ (s.size : Int) := by omega
    clear hx0 hx1 hx2
    go_enter Tryd.func91, Tryd.ntmps91
    go_wp2
    go_ret
    exact ⟨ret_bool (HL2.out _ (by simp; omega)), Below.refl _ _⟩
  by_cases hk1 : s.size = 1
  · have HZ := hide (show s.size = 1 by omega)
    have z1 : (s.size : Int) < 3 := by omega
    have z2 : ¬ (1 : Int) < (s.size : Int) := by omega
    have z3 : ¬ (2 : Int) < (s.size : Int) := by omega
    clear hx0 hx1 hx2
    go_enter Tryd.func91, Tryd.ntmps91
    go_wp2
    go_quiet (fail)
    go_wp2
    all_goals (go_ret; refine ⟨ret_bool (HL2.out _ ?_), below_drewA ((Below.refl _ _).alloc (Nat.le_refl _) _) _⟩; rw [HZ.out]; simp <;> omega)
  · by_cases ta : x1.toNat < 128
    · have HZ := hide (show s.size = 2 by omega)
      have z1 : (s.size : Int) < 3 := by omega
      have z2 : (1 : Int) < (s.size : Int) := by omega
      have z3 : ¬ (2 : Int) < (s.size : Int) := by omega
      have hs1 : s[1]'(by omega) = x1 := by rw [← hx1]; exact (get_of (by omega)).symm
      have ta2 : (x1.toNat : Int) < 128 := by omega
      clear hx0 hx1 hx2
      go_enter Tryd.func91, Tryd.ntmps91
      go_wp2
      go_quiet (fail)
      go_wp2
      all_goals (go_ret; refine ⟨ret_bool (HL2.out _ ?_), below_drewA ((Below.refl _ _).alloc (Nat.le_refl _) _) _⟩; rw [HZ.out]; simp <;> omega)
    by_cases tb : 159 < x1.toNat
    · have HZ := hide (show s.size = 2 by omega)
      have z1 : (s.size : Int) < 3 := by omega
      have z2 : (1 : Int) < (s.size : Int) := by omega
      have z3 : ¬ (2 : Int) < (s.size : Int) := by omega
      have hs1 : s[1]'(by omega) = x1 := by rw [← hx1]; exact (get_of (by omega)).symm
      have ta2 : ¬ (x1.toNat : Int) < 128 := by omega
      have tb2 : (159 : Int) < (x1.toNat : Int) := by omega
      clear hx0 hx1 hx2
      go_enter Tryd.func91, Tryd.ntmps91
      go_wp2
      go_quiet (fail)
      go_wp2
      all_goals (go_ret; refine ⟨ret_bool (HL2.out _ ?_), below_drewA ((Below.refl _ _).alloc (Nat.le_refl _) _) _⟩; rw [HZ.out]; simp <;> omega)
    · have HZ := hide (show s.size = 2 by omega)
      have z1 : (s.size : Int) < 3 := by omega
      have z2 : (1 : Int) < (s.size : Int) := by omega
      have z3 : ¬ (2 : Int) < (s.size : Int) := by omega
      have hs1 : s[1]'(by omega) = x1 := by rw [← hx1]; exact (get_of (by omega)).symm
      have ta2 : ¬ (x1.toNat : Int) < 128 := by omega
      have tb2 : ¬ (159 : Int) < (x1.toNat : Int) := by omega
      clear hx0 hx1 hx2
      go_enter Tryd.func91, Tryd.ntmps91
      go_wp2
      go_quiet (fail)
      go_wp2
      all_goals (go_ret; refine ⟨ret_bool (HL2.out _ ?_), below_drewA ((Below.refl _ _).alloc (Nat.le_refl _) _) _⟩; rw [HZ.out]; simp <;> omega)
set_option maxHeartbeats 4000000 in
set_option maxRecDepth 100000 in
theorem full_52 (s : ByteArray) (w : World) (hT : UTabs w) (h0 : 0 < s.size) (hX : firstT (s.get! 0).toNat = 52) :
    Calls Tryd.prog 91 #[.string s] w fun e w' => e = .returned (.bool (!begB s)) ∧ Below w.heap.size w w' := by
  have hz0 : (0 : Int) < (s.size : Int) := by omega
  obtain ⟨x0, hx0⟩ : ∃ x0, s.get! 0 = x0 := ⟨_, rfl⟩
  obtain ⟨x1, hx1⟩ : ∃ x1, s.get! 1 = x1 := ⟨_, rfl⟩
  obtain ⟨x2, hx2⟩ : ∃ x2, s.get! 2 = x2 := ⟨_, rfl⟩
  have hs0 : s[0]'(by omega) = x0 := by rw [← hx0]; exact (get_of h0).symm
  have HL := fun (b : Bool) => full_leaf (b := b) h0 hx0 hx1 hx2
  have l0 := x0.toNat_lt; have l1 := x1.toNat_lt; have l2 := x2.toNat_lt
  have hc0 := hT.1 x0.toNat (by omega)
  rw [hx0] at hX
  have hlead := lead_of hX
  rw [hX] at hc0
  have ha0 := (hT.2 3 (by omega)).1
  have ha1 := (hT.2 3 (by omega)).2
  simp only [accLo, accHi, Nat.reduceMul, Nat.reduceAdd, Nat.reduceEqDiff, if_true, if_false] at ha0 ha1
  obtain ⟨n1, n2, n3⟩ := hlead.2.2.2.2.2.2.1 rfl
  rw [n1, n2, n3] at HL
  have HL2 := hide HL
  clear hlead hT hX HL n1 n2 n3
  by_cases hn : 4 ≤ s.size
  · have hnz : (4 : Int) ≤ (s.size : Int) := by omega
    clear hx0 hx1 hx2
    go_enter Tryd.func91, Tryd.ntmps91
    go_wp2
    go_ret
    exact ⟨ret_bool (HL2.out _ (by simp; omega)), Below.refl _ _⟩
  by_cases hk1 : s.size = 1
  · have HZ := hide (show s.size = 1 by omega)
    have z1 : (s.size : Int) < 4 := by omega
    have z2 : ¬ (1 : Int) < (s.size : Int) := by omega
    have z3 : ¬ (2 : Int) < (s.size : Int) := by omega
    clear hx0 hx1 hx2
    go_enter Tryd.func91, Tryd.ntmps91
    go_wp2
    go_quiet (fail)
    go_wp2
    all_goals (go_ret; refine ⟨ret_bool (HL2.out _ ?_), below_drewA ((Below.refl _ _).alloc (Nat.le_refl _) _) _⟩; rw [HZ.out]; simp <;> omega)
  by_cases hk2 : s.size = 2
  · by_cases ta : x1.toNat < 144
    · have HZ := hide (show s.size = 2 by omega)
      have z1 : (s.size : Int) < 4 := by omega
      have z2 : (1 : Int) < (s.size : Int) := by omega
      have z3 : ¬ (2 : Int) < (s.size : Int) := by omega
      have hs1 : s[1]'(by omega) = x1 := by rw [← hx1]; exact (get_of (by omega)).symm
      have ta2 : (x1.toNat : Int) < 144 := by omega
      clear hx0 hx1 hx2
      go_enter Tryd.func91, Tryd.ntmps91
      go_wp2
      go_quiet (fail)
      go_wp2
      all_goals (go_ret; refine ⟨ret_bool (HL2.out _ ?_), below_drewA ((Below.refl _ _).alloc (Nat.le_refl _) _) _⟩; rw [HZ.out]; simp <;> omega)
    by_cases tb : 191 < x1.toNat
    · have HZ := hide (show s.size = 2 by omega)
      have z1 : (s.size : Int) < 4 := by omega
      have z2 : (1 : Int) < (s.size : Int) := by omega
      have z3 : ¬ (2 : Int) < (s.size : Int) := by omega
      have hs1 : s[1]'(by omega) = x1 := by rw [← hx1]; exact (get_of (by omega)).symm
      have ta2 : ¬ (x1.toNat : Int) < 144 := by omega
      have tb2 : (191 : Int) < (x1.toNat : Int) := by omega
      clear hx0 hx1 hx2
      go_enter Tryd.func91, Tryd.ntmps91
      go_wp2
      go_quiet (fail)
      go_wp2
      all_goals (go_ret; refine ⟨ret_bool (HL2.out _ ?_), below_drewA ((Below.refl _ _).alloc (Nat.le_refl _) _) _⟩; rw [HZ.out]; simp <;> omega)
    · have HZ := hide (show s.size = 2 by omega)
      have z1 : (s.size : Int) < 4 := by omega
      have z2 : (1 : Int) < (s.size : Int) := by omega
      have z3 : ¬ (2 : Int) < (s.size : Int) := by omega
      have hs1 : s[1]'(by omega) = x1 := by rw [← hx1]; exact (get_of (by omega)).symm
      have ta2 : ¬ (x1.toNat : Int) < 144 := by omega
      have tb2 : ¬ (191 : Int) < (x1.toNat : Int) := by omega
      clear hx0 hx1 hx2
      go_enter Tryd.func91, Tryd.ntmps91
      go_wp2
      go_quiet (fail)
      go_wp2
      all_goals (go_ret; refine ⟨ret_bool (HL2.out _ ?_), below_drewA ((Below.refl _ _).alloc (Nat.le_refl _) _) _⟩; rw [HZ.out]; simp <;> omega)
  · by_cases ta : x1.toNat < 144
    · have HZ := hide (show s.size = 3 by omega)
      have z1 : (s.size : Int) < 4 := by omega
      have z2 : (1 : Int) < (s.size : Int) := by omega
      have z3 : (2 : Int) < (s.size : Int) := by omega
      have hs1 : s[1]'(by omega) = x1 := by rw [← hx1]; exact (get_of (by omega)).symm
      have hs2 : s[2]'(by omega) = x2 := by rw [← hx2]; exact (get_of (by omega)).symm
      have ta2 : (x1.toNat : Int) < 144 := by omega
      clear hx0 hx1 hx2
      go_enter Tryd.func91, Tryd.ntmps91
      go_wp2
      go_quiet (fail)
      go_wp2
      all_goals (go_ret; refine ⟨ret_bool (HL2.out _ ?_), below_drewA ((Below.refl _ _).alloc (Nat.le_refl _) _) _⟩; rw [HZ.out]; simp <;> omega)
    by_cases tb : 191 < x1.toNat
    · have HZ := hide (show s.size = 3 by omega)
      have z1 : (s.size : Int) < 4 := by omega
      have z2 : (1 : Int) < (s.size : Int) := by omega
      have z3 : (2 : Int) < (s.size : Int) := by omega
      have hs1 : s[1]'(by omega) = x1 := by rw [← hx1]; exact (get_of (by omega)).symm
      have hs2 : s[2]'(by omega) = x2 := by rw [← hx2]; exact (get_of (by omega)).symm
      have ta2 : ¬ (x1.toNat : Int) < 144 := by omega
      have tb2 : (191 : Int) < (x1.toNat : Int) := by omega
      clear hx0 hx1 hx2
      go_enter Tryd.func91, Tryd.ntmps91
      go_wp2
      go_quiet (fail)
      go_wp2
      all_goals (go_ret; refine ⟨ret_bool (HL2.out _ ?_), below_drewA ((Below.refl _ _).alloc (Nat.le_refl _) _) _⟩; rw [HZ.out]; simp <;> omega)
    · have HZ := hide (show s.size = 3 by omega)
      have z1 : (s.size : Int) < 4 := by omega
      have z2 : (1 : Int) < (s.size : Int) := by omega
      have z3 : (2 : Int) < (s.size : Int) := by omega
      have hs1 : s[1]'(by omega) = x1 := by rw [← hx1]; exact (get_of (by omega)).symm
      have hs2 : s[2]'(by omega) = x2 := by rw [← hx2]; exact (get_of (by omega)).symm
      have ta2 : ¬ (x1.toNat : Int) < 144 := by omega
      have tb2 : ¬ (191 : Int) < (x1.toNat : Int) := by omega
      clear hx0 hx1 hx2
      go_enter Tryd.func91, Tryd.ntmps91
      go_wp2
      go_quiet (fail)
      go_wp2
      all_goals (go_ret; refine ⟨ret_bool (HL2.out _ ?_), below_drewA ((Below.refl _ _).alloc (Nat.le_refl _) _) _⟩; rw [HZ.out]; simp <;> omega)
set_option maxHeartbeats 4000000 in
set_option maxRecDepth 100000 in
theorem full_4 (s : ByteArray) (w : World) (hT : UTabs w) (h0 : 0 < s.size) (hX : firstT (s.get! 0).toNat = 4) :
    Calls Tryd.prog 91 #[.string s] w fun e w' => e = .returned (.bool (!begB s)) ∧ Below w.heap.size w w' := by
  have hz0 : (0 : Int) < (s.size : Int) := by omega
  obtain ⟨x0, hx0⟩ : ∃ x0, s.get! 0 = x0 := ⟨_, rfl⟩
  obtain ⟨x1, hx1⟩ : ∃ x1, s.get! 1 = x1 := ⟨_, rfl⟩
  obtain ⟨x2, hx2⟩ : ∃ x2, s.get! 2 = x2 := ⟨_, rfl⟩
  have hs0 : s[0]'(by omega) = x0 := by rw [← hx0]; exact (get_of h0).symm
  have HL := fun (b : Bool) => full_leaf (b := b) h0 hx0 hx1 hx2
  have l0 := x0.toNat_lt; have l1 := x1.toNat_lt; have l2 := x2.toNat_lt
  have hc0 := hT.1 x0.toNat (by omega)
  rw [hx0] at hX
  have hlead := lead_of hX
  rw [hX] at hc0
  have ha0 := (hT.2 0 (by omega)).1
  have ha1 := (hT.2 0 (by omega)).2
  simp only [accLo, accHi, Nat.reduceMul, Nat.reduceAdd, Nat.reduceEqDiff, if_true, if_false] at ha0 ha1
  obtain ⟨n1, n2, n3⟩ := hlead.2.2.2.2.2.1 rfl
  rw [n1, n2, n3] at HL
  have HL2 := hide HL
  clear hlead hT hX HL n1 n2 n3
  by_cases hn : 4 ≤ s.size
  · have hnz : (4 : Int) ≤ (s.size : Int) := by omega
    clear hx0 hx1 hx2
    go_enter Tryd.func91, Tryd.ntmps91
    go_wp2
    go_ret
    exact ⟨ret_bool (HL2.out _ (by simp; omega)), Below.refl _ _⟩
  by_cases hk1 : s.size = 1
  · have HZ := hide (show s.size = 1 by omega)
    have z1 : (s.size : Int) < 4 := by omega
    have z2 : ¬ (1 : Int) < (s.size : Int) := by omega
    have z3 : ¬ (2 : Int) < (s.size : Int) := by omega
    clear hx0 hx1 hx2
    go_enter Tryd.func91, Tryd.ntmps91
    go_wp2
    go_quiet (fail)
    go_wp2
    all_goals (go_ret; refine ⟨ret_bool (HL2.out _ ?_), below_drewA ((Below.refl _ _).alloc (Nat.le_refl _) _) _⟩; rw [HZ.out]; simp <;> omega)
  by_cases hk2 : s.size = 2
  · by_cases ta : x1.toNat < 128
    · have HZ := hide (show s.size = 2 by omega)
      have z1 : (s.size : Int) < 4 := by omega
      have z2 : (1 : Int) < (s.size : Int) := by omega
      have z3 : ¬ (2 : Int) < (s.size : Int) := by omega
      have hs1 : s[1]'(by omega) = x1 := by rw [← hx1]; exact (get_of (by omega)).symm
      have ta2 : (x1.toNat : Int) < 128 := by omega
      clear hx0 hx1 hx2
      go_enter Tryd.func91, Tryd.ntmps91
      go_wp2
      go_quiet (fail)
      go_wp2
      all_goals (go_ret; refine ⟨ret_bool (HL2.out _ ?_), below_drewA ((Below.refl _ _).alloc (Nat.le_refl _) _) _⟩; rw [HZ.out]; simp <;> omega)
    by_cases tb : 191 < x1.toNat
    · have HZ := hide (show s.size = 2 by omega)
      have z1 : (s.size : Int) < 4 := by omega
      have z2 : (1 : Int) < (s.size : Int) := by omega
      have z3 : ¬ (2 : Int) < (s.size : Int) := by omega
      have hs1 : s[1]'(by omega) = x1 := by rw [← hx1]; exact (get_of (by omega)).symm
      have ta2 : ¬ (x1.toNat : Int) < 128 := by omega
      have tb2 : (191 : Int) < (x1.toNat : Int) := by omega
      clear hx0 hx1 hx2
      go_enter Tryd.func91, Tryd.ntmps91
      go_wp2
      go_quiet (fail)
      go_wp2
      all_goals (go_ret; refine ⟨ret_bool (HL2.out _ ?_), below_drewA ((Below.refl _ _).alloc (Nat.le_refl _) _) _⟩; rw [HZ.out]; simp <;> omega)
    · have HZ := hide (show s.size = 2 by omega)
      have z1 : (s.size : Int) < 4 := by omega
      have z2 : (1 : Int) < (s.size : Int) := by omega
      have z3 : ¬ (2 : Int) < (s.size : Int) := by omega
      have hs1 : s[1]'(by omega) = x1 := by rw [← hx1]; exact (get_of (by omega)).symm
      have ta2 : ¬ (x1.toNat : Int) < 128 := by omega
      have tb2 : ¬ (191 : Int) < (x1.toNat : Int) := by omega
      clear hx0 hx1 hx2
      go_enter Tryd.func91, Tryd.ntmps91
      go_wp2
      go_quiet (fail)
      go_wp2
      all_goals (go_ret; refine ⟨ret_bool (HL2.out _ ?_), below_drewA ((Below.refl _ _).alloc (Nat.le_refl _) _) _⟩; rw [HZ.out]; simp <;> omega)
  · by_cases ta : x1.toNat < 128
    · have HZ := hide (show s.size = 3 by omega)
      have z1 : (s.size : Int) < 4 := by omega
      have z2 : (1 : Int) < (s.size : Int) := by omega
      have z3 : (2 : Int) < (s.size : Int) := by omega
      have hs1 : s[1]'(by omega) = x1 := by rw [← hx1]; exact (get_of (by omega)).symm
      have hs2 : s[2]'(by omega) = x2 := by rw [← hx2]; exact (get_of (by omega)).symm
      have ta2 : (x1.toNat : Int) < 128 := by omega
      clear hx0 hx1 hx2
      go_enter Tryd.func91, Tryd.ntmps91
      go_wp2
      go_quiet (fail)
      go_wp2
      all_goals (go_ret; refine ⟨ret_bool (HL2.out _ ?_), below_drewA ((Below.refl _ _).alloc (Nat.le_refl _) _) _⟩; rw [HZ.out]; simp <;> omega)
    by_cases tb : 191 < x1.toNat
    · have HZ := hide (show s.size = 3 by omega)
      have z1 : (s.size : Int) < 4 := by omega
      have z2 : (1 : Int) < (s.size : Int) := by omega
      have z3 : (2 : Int) < (s.size : Int) := by omega
      have hs1 : s[1]'(by omega) = x1 := by rw [← hx1]; exact (get_of (by omega)).symm
      have hs2 : s[2]'(by omega) = x2 := by rw [← hx2]; exact (get_of (by omega)).symm
      have ta2 : ¬ (x1.toNat : Int) < 128 := by omega
      have tb2 : (191 : Int) < (x1.toNat : Int) := by omega
      clear hx0 hx1 hx2
      go_enter Tryd.func91, Tryd.ntmps91
      go_wp2
      go_quiet (fail)
      go_wp2
      all_goals (go_ret; refine ⟨ret_bool (HL2.out _ ?_), below_drewA ((Below.refl _ _).alloc (Nat.le_refl _) _) _⟩; rw [HZ.out]; simp <;> omega)
    · have HZ := hide (show s.size = 3 by omega)
      have z1 : (s.size : Int) < 4 := by omega
      have z2 : (1 : Int) < (s.size : Int) := by omega
      have z3 : (2 : Int) < (s.size : Int) := by omega
      have hs1 : s[1]'(by omega) = x1 := by rw [← hx1]; exact (get_of (by omega)).symm
      have hs2 : s[2]'(by omega) = x2 := by rw [← hx2]; exact (get_of (by omega)).symm
      have ta2 : ¬ (x1.toNat : Int) < 128 := by omega
      have tb2 : ¬ (191 : Int) < (x1.toNat : Int) := by omega
      clear hx0 hx1 hx2
      go_enter Tryd.func91, Tryd.ntmps91
      go_wp2
      go_quiet (fail)
      go_wp2
      all_goals (go_ret; refine ⟨ret_bool (HL2.out _ ?_), below_drewA ((Below.refl _ _).alloc (Nat.le_refl _) _) _⟩; rw [HZ.out]; simp <;> omega)
set_option maxHeartbeats 4000000 in
set_option maxRecDepth 100000 in
theorem full_68 (s : ByteArray) (w : World) (hT : UTabs w) (h0 : 0 < s.size) (hX : firstT (s.get! 0).toNat = 68) :
    Calls Tryd.prog 91 #[.string s] w fun e w' => e = .returned (.bool (!begB s)) ∧ Below w.heap.size w w' := by
  have hz0 : (0 : Int) < (s.size : Int) := by omega
  obtain ⟨x0, hx0⟩ : ∃ x0, s.get! 0 = x0 := ⟨_, rfl⟩
  obtain ⟨x1, hx1⟩ : ∃ x1, s.get! 1 = x1 := ⟨_, rfl⟩
  obtain ⟨x2, hx2⟩ : ∃ x2, s.get! 2 = x2 := ⟨_, rfl⟩
  have hs0 : s[0]'(by omega) = x0 := by rw [← hx0]; exact (get_of h0).symm
  have HL := fun (b : Bool) => full_leaf (b := b) h0 hx0 hx1 hx2
  have l0 := x0.toNat_lt; have l1 := x1.toNat_lt; have l2 := x2.toNat_lt
  have hc0 := hT.1 x0.toNat (by omega)
  rw [hx0] at hX
  have hlead := lead_of hX
  rw [hX] at hc0
  have ha0 := (hT.2 4 (by omega)).1
  have ha1 := (hT.2 4 (by omega)).2
  simp only [accLo, accHi, Nat.reduceMul, Nat.reduceAdd, Nat.reduceEqDiff, if_true, if_false] at ha0 ha1
  obtain ⟨n1, n2, n3⟩ := hlead.2.2.2.2.2.2.2 rfl
  rw [n1, n2, n3] at HL
  have HL2 := hide HL
  clear hlead hT hX HL n1 n2 n3
  by_cases hn : 4 ≤ s.size
  · have hnz : (4 : Int) ≤ (s.size : Int) := by omega
    clear hx0 hx1 hx2
    go_enter Tryd.func91, Tryd.ntmps91
    go_wp2
    go_ret
    exact ⟨ret_bool (HL2.out _ (by simp; omega)), Below.refl _ _⟩
  by_cases hk1 : s.size = 1
  · have HZ := hide (show s.size = 1 by omega)
    have z1 : (s.size : Int) < 4 := by omega
    have z2 : ¬ (1 : Int) < (s.size : Int) := by omega
    have z3 : ¬ (2 : Int) < (s.size : Int) := by omega
    clear hx0 hx1 hx2
    go_enter Tryd.func91, Tryd.ntmps91
    go_wp2
    go_quiet (fail)
    go_wp2
    all_goals (go_ret; refine ⟨ret_bool (HL2.out _ ?_), below_drewA ((Below.refl _ _).alloc (Nat.le_refl _) _) _⟩; rw [HZ.out]; simp <;> omega)
  by_cases hk2 : s.size = 2
  · by_cases ta : x1.toNat < 128
    · have HZ := hide (show s.size = 2 by omega)
      have z1 : (s.size : Int) < 4 := by omega
      have z2 : (1 : Int) < (s.size : Int) := by omega
      have z3 : ¬ (2 : Int) < (s.size : Int) := by omega
      have hs1 : s[1]'(by omega) = x1 := by rw [← hx1]; exact (get_of (by omega)).symm
      have ta2 : (x1.toNat : Int) < 128 := by omega
      clear hx0 hx1 hx2
      go_enter Tryd.func91, Tryd.ntmps91
      go_wp2
      go_quiet (fail)
      go_wp2
      all_goals (go_ret; refine ⟨ret_bool (HL2.out _ ?_), below_drewA ((Below.refl _ _).alloc (Nat.le_refl _) _) _⟩; rw [HZ.out]; simp <;> omega)
    by_cases tb : 143 < x1.toNat
    · have HZ := hide (show s.size = 2 by omega)
      have z1 : (s.size : Int) < 4 := by omega
      have z2 : (1 : Int) < (s.size : Int) := by omega
      have z3 : ¬ (2 : Int) < (s.size : Int) := by omega
      have hs1 : s[1]'(by omega) = x1 := by rw [← hx1]; exact (get_of (by omega)).symm
      have ta2 : ¬ (x1.toNat : Int) < 128 := by omega
      have tb2 : (143 : Int) < (x1.toNat : Int) := by omega
      clear hx0 hx1 hx2
      go_enter Tryd.func91, Tryd.ntmps91
      go_wp2
      go_quiet (fail)
      go_wp2
      all_goals (go_ret; refine ⟨ret_bool (HL2.out _ ?_), below_drewA ((Below.refl _ _).alloc (Nat.le_refl _) _) _⟩; rw [HZ.out]; simp <;> omega)
    · have HZ := hide (show s.size = 2 by omega)
      have z1 : (s.size : Int) < 4 := by omega
      have z2 : (1 : Int) < (s.size : Int) := by omega
      have z3 : ¬ (2 : Int) < (s.size : Int) := by omega
      have hs1 : s[1]'(by omega) = x1 := by rw [← hx1]; exact (get_of (by omega)).symm
      have ta2 : ¬ (x1.toNat : Int) < 128 := by omega
      have tb2 : ¬ (143 : Int) < (x1.toNat : Int) := by omega
      clear hx0 hx1 hx2
      go_enter Tryd.func91, Tryd.ntmps91
      go_wp2
      go_quiet (fail)
      go_wp2
      all_goals (go_ret; refine ⟨ret_bool (HL2.out _ ?_), below_drewA ((Below.refl _ _).alloc (Nat.le_refl _) _) _⟩; rw [HZ.out]; simp <;> omega)
  · by_cases ta : x1.toNat < 128
    · have HZ := hide (show s.size = 3 by omega)
      have z1 : (s.size : Int) < 4 := by omega
      have z2 : (1 : Int) < (s.size : Int) := by omega
      have z3 : (2 : Int) < (s.size : Int) := by omega
      have hs1 : s[1]'(by omega) = x1 := by rw [← hx1]; exact (get_of (by omega)).symm
      have hs2 : s[2]'(by omega) = x2 := by rw [← hx2]; exact (get_of (by omega)).symm
      have ta2 : (x1.toNat : Int) < 128 := by omega
      clear hx0 hx1 hx2
      go_enter Tryd.func91, Tryd.ntmps91
      go_wp2
      go_quiet (fail)
      go_wp2
      all_goals (go_ret; refine ⟨ret_bool (HL2.out _ ?_), below_drewA ((Below.refl _ _).alloc (Nat.le_refl _) _) _⟩; rw [HZ.out]; simp <;> omega)
    by_cases tb : 143 < x1.toNat
    · have HZ := hide (show s.size = 3 by omega)
      have z1 : (s.size : Int) < 4 := by omega
      have z2 : (1 : Int) < (s.size : Int) := by omega
      have z3 : (2 : Int) < (s.size : Int) := by omega
      have hs1 : s[1]'(by omega) = x1 := by rw [← hx1]; exact (get_of (by omega)).symm
      have hs2 : s[2]'(by omega) = x2 := by rw [← hx2]; exact (get_of (by omega)).symm
      have ta2 : ¬ (x1.toNat : Int) < 128 := by omega
      have tb2 : (143 : Int) < (x1.toNat : Int) := by omega
      clear hx0 hx1 hx2
      go_enter Tryd.func91, Tryd.ntmps91
      go_wp2
      go_quiet (fail)
      go_wp2
      all_goals (go_ret; refine ⟨ret_bool (HL2.out _ ?_), below_drewA ((Below.refl _ _).alloc (Nat.le_refl _) _) _⟩; rw [HZ.out]; simp <;> omega)
    · have HZ := hide (show s.size = 3 by omega)
      have z1 : (s.size : Int) < 4 := by omega
      have z2 : (1 : Int) < (s.size : Int) := by omega
      have z3 : (2 : Int) < (s.size : Int) := by omega
      have hs1 : s[1]'(by omega) = x1 := by rw [← hx1]; exact (get_of (by omega)).symm
      have hs2 : s[2]'(by omega) = x2 := by rw [← hx2]; exact (get_of (by omega)).symm
      have ta2 : ¬ (x1.toNat : Int) < 128 := by omega
      have tb2 : ¬ (143 : Int) < (x1.toNat : Int) := by omega
      clear hx0 hx1 hx2
      go_enter Tryd.func91, Tryd.ntmps91
      go_wp2
      go_quiet (fail)
      go_wp2
      all_goals (go_ret; refine ⟨ret_bool (HL2.out _ ?_), below_drewA ((Below.refl _ _).alloc (Nat.le_refl _) _) _⟩; rw [HZ.out]; simp <;> omega)
theorem full_any (s : ByteArray) (w : World) (hT : UTabs w) (h0 : 0 < s.size) :
    Calls Tryd.prog 91 #[.string s] w fun e w' => e = .returned (.bool (!begB s)) ∧ Below w.heap.size w w' := by
  rcases Lib.firstT_cases (s.get! 0).toNat with hX | hX | hX | hX | hX | hX | hX | hX | hX
  · exact full_240 s w hT h0 hX
  · exact full_241 s w hT h0 hX
  · exact full_2 s w hT h0 hX
  · exact full_19 s w hT h0 hX
  · exact full_3 s w hT h0 hX
  · exact full_35 s w hT h0 hX
  · exact full_52 s w hT h0 hX
  · exact full_4 s w hT h0 hX
  · exact full_68 s w hT h0 hX

end Go.Proofs.YtmemdhmjhckmaaaDoor
namespace Go.Proofs.YtmemdhmjhckmaaaDoor
open Go.RowKit Go.Lib

set_option maxHeartbeats 1000000 in
/-- parser.begins. -/
theorem begins_any (s : ByteArray) (w : World) (hT : UTabs w) : Calls Tryd.prog 74 #[.string s] w fun e w' => e = .returned (.bool (begB s)) ∧ Below w.heap.size w w' := by
  have HT := hide hT
  clear hT
  by_cases h0 : s.size = 0
  · obtain rfl := size0 h0
    go_enter Tryd.func74, Tryd.ntmps74
    go_wp2
    go_ret
    exact ⟨rfl, Below.refl _ _⟩
  · have hl : s.toList.isEmpty = false := by
      rw [ByteArray.toList_eq]
      cases h : s.data.toList with
      | nil => exfalso; apply h0; show s.data.size = 0; rw [← Array.length_toList, h]; rfl
      | cons a l => rfl
    have hp : 0 < s.size := by omega
    cases hb : begB s
    all_goals
      have HF := hide (full_any s w HT.out hp)
      rw [hb] at HF
      clear hb
      go_enter Tryd.func74, Tryd.ntmps74
      go_wp2_with (go_at_call 91; refine HF.out.mono ?_; rintro e w' ⟨rfl, hb⟩)
      go_ret
      exact ⟨rfl, hb⟩
end Go.Proofs.YtmemdhmjhckmaaaDoor
