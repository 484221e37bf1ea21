/- regs.span. -/
import Derived.Test.YtfamoikmfbpigaaDoorElet
import Derived.Laws.Bits64b
namespace Go.Proofs.YtfamoikmfbpigaaDoor
open Go.RowKit

/-- A node's cells in a box. -/
def ndL (k : Int) (S : List Nat) (kids : Value) : List Value := [.int .i64 k] ++ S.map (fun (x : Nat) => Value.int .u64 (x : Int)) ++ [kids]
theorem ndL_at {k : Int} {S : List Nat} {kids : Value} {q x : Nat} (h : S[q]? = some x) : (ndL k S kids)[1 + q]? = some (.int .u64 (x : Int)) := by
  unfold ndL
  have hl := (List.getElem?_eq_some_iff.1 h).1
  rw [List.append_assoc, List.getElem?_append_right (by simp), List.getElem?_append_left (by simp; omega)]
  simp [h]
theorem ndL_set {k : Int} {S : List Nat} {kids : Value} {q y : Nat} (h : q < S.length) : (ndL k S kids).set (1 + q) (.int .u64 (y : Int)) = ndL k (S.set q y) kids := by
  unfold ndL
  rw [List.append_assoc, List.set_append_right _ _ (by simp), List.set_append_left _ _ (by simp; omega)]
  simp [List.map_set]
/-- One bit more. -/
def bitS (S : List Nat) (b : Nat) : List Nat := S.set (b / 64) (S[b / 64]?.getD 0 ||| 2 ^ (b % 64))
def spanS (S : List Nat) (a : Nat) : Nat → List Nat
  | 0 => S
  | n + 1 => bitS (spanS S a n) (a + n)
theorem bitS_len (S : List Nat) (b : Nat) : (bitS S b).length = S.length := by simp [bitS]
theorem spanS_len (S : List Nat) (a : Nat) : ∀ n, (spanS S a n).length = S.length
  | 0 => rfl
  | n + 1 => by rw [spanS, bitS_len, spanS_len S a n]
def W64 (S : List Nat) : Prop := S.length = 4 ∧ ∀ x ∈ S, x < 18446744073709551616
theorem bitS_w {S : List Nat} (h : W64 S) (b : Nat) : W64 (bitS S b) := by
  refine ⟨by rw [bitS_len]; exact h.1, fun x hx => ?_⟩
  unfold bitS at hx
  rcases List.mem_or_eq_of_mem_set hx with h1 | rfl
  · exact h.2 x h1
  · have h2 : S[b / 64]?.getD 0 < 2 ^ 64 := by
      cases e : S[b / 64]? with
      | none => decide
      | some y => exact h.2 y (List.mem_of_getElem? e)
    have h3 : 2 ^ (b % 64) < 2 ^ 64 := Nat.pow_lt_pow_right (by omega) (Nat.mod_lt _ (by omega))
    exact Nat.or_lt_two_pow h2 h3
theorem spanS_w {S : List Nat} (h : W64 S) (a : Nat) : ∀ n, W64 (spanS S a n)
  | 0 => h
  | n + 1 => bitS_w (spanS_w h a n) _
theorem or_pow (x r : Nat) (hx : x < 18446744073709551616) (hr : r < 64) : bits .or .u64 (x : Int) (IntKind.u64.wrap ((2 : Int) ^ r)) = ((x ||| 2 ^ r : Nat) : Int) := by
  have h3 : 2 ^ r < 2 ^ 64 := Nat.pow_lt_pow_right (by omega) hr
  have e : IntKind.u64.wrap ((2 : Int) ^ r) = ((2 ^ r : Nat) : Int) := by
    rw [show (2 : Int) ^ r = ((2 ^ r : Nat) : Int) by push_cast; rfl]
    obtain ⟨y, hy⟩ : ∃ y, 2 ^ r = y := ⟨_, rfl⟩
    rw [hy] at h3 ⊢
    simp [IntKind.wrap_u64]
    omega
  rw [e]
  exact bits_or_u64_nat x (2 ^ r) hx h3
theorem KeepR.setK (p o : Nat) (W : World) (v : Value) : KeepR p W (W.setCell ⟨p, o, none⟩ v) :=
  ⟨rfl, rfl, rfl, by unfold World.setCell; simp, fun b _ hne => Below.heap_setCell _ _ _ _ hne⟩
set_option maxHeartbeats 2000000 in
set_option maxRecDepth 100000 in
theorem span_any (z : Nat) (k : Int) (S : List Nat) (kids : Value) (a b : Nat) (w : World) (h : Blk w z 27 (ndL k S kids)) (hS : W64 S) (ha : a < 256) (hb : b < 256) :
    Calls Tryd.prog 71 #[.pointer (some ⟨z, 1, none⟩), .int .u8 (a : Int), .int .u8 (b : Int)] w fun e w' => e = .returned (.tuple #[]) ∧ Blk w' z 27 (ndL k (spanS S a (b + 1 - a)) kids) ∧ KeepR z w w' := by
  have H := hide h
  have HS := hide hS
  clear h hS
  go_enter Tryd.func71, Tryd.ntmps71
  go_wp2
  go_loopw [6] (fun iv wr => ∃ j : Nat, iv = .int .i64 ((a + j : Nat) : Int) ∧ j ≤ b + 1 - a ∧ Hid (Blk wr z 27 (ndL k (spanS S a j) kids)) ∧ Hid (KeepR z w wr)) (fun iv _ => b + 1 - (intOf iv).toNat)
  case atStart => exact ⟨0, rfl, by omega, H, hide (KeepR.refl _ _)⟩
  case round =>
    clear H
    obtain ⟨j, rfl, hj, H, HK⟩ := hrel
    obtain ⟨i, hi⟩ : ∃ i, a + j = i := ⟨_, rfl⟩
    rw [hi]
    by_cases hle : i ≤ b
    · have hle1 : (i : Int) ≤ (b : Int) := by omega
      obtain ⟨q, hq⟩ : ∃ q, i / 64 = q := ⟨_, rfl⟩
      obtain ⟨r, hr⟩ : ∃ r, i % 64 = r := ⟨_, rfl⟩
      have hq4 : q < 4 := by omega
      have hr64 : r < 64 := by omega
      have hqi : (i : Int) / 64 = (q : Int) := by omega
      have hri : (i : Int) % 64 = (r : Int) := by omega
      have hi0 : (0 : Int) ≤ (i : Int) := by omega
      have hw0 : IntKind.i64.wrap (q : Int) = (q : Int) := Go.wrap_small _ (by omega) (by omega)
      have hlen := (spanS_w HS.out a j).1
      obtain ⟨x, hx⟩ : ∃ x, (spanS S a j)[q]? = some x := ⟨_, List.getElem?_eq_getElem (by omega)⟩
      have c0 := H.out.cell (ndL_at hx)
      have cf := fun i => H.out.frozen i
      have hq0 : (0 : Int) ≤ (q : Int) := by omega
      have hq1 : (q : Int) < 4 := by omega
      have hr0 : (0 : Int) ≤ (r : Int) := by omega
      have hr1 : (r : Int) < 64 := by omega
      have HV := hide (show bits .or .u64 (x : Int) (IntKind.u64.wrap ((2 : Int) ^ r)) = ((x ||| 2 ^ r : Nat) : Int) from or_pow x r (by have := (spanS_w HS.out a j).2 x (List.mem_of_getElem? hx); exact this) hr64)
      have HSN := hide (show (spanS S a j).set q (x ||| 2 ^ r) = spanS S a (j + 1) by
        rw [spanS, hi]; unfold bitS; rw [hq, hr, hx]; rfl)
      have hib : i ≤ 255 := by omega
      go_wp2_with fail
      go_region
      have hbk := H.out.set (1 + q) (.int .u64 (bits .or .u64 (x : Int) (IntKind.u64.wrap ((2 : Int) ^ r))))
      rw [HV.out, ndL_set (by omega), HSN.out] at hbk
      have hk := KeepR.setK z (1 + q) wr (.int .u64 (bits .or .u64 (x : Int) (IntKind.u64.wrap ((2 : Int) ^ r))))
      rw [HV.out] at hk ⊢
      obtain ⟨X, hX⟩ : ∃ X, wr.setCell ⟨z, 1 + q, none⟩ (.int .u64 ((x ||| 2 ^ r : Nat) : Int)) = X := ⟨_, rfl⟩
      rw [hX] at hbk hk ⊢
      have HBX := hide (hbk.below ((Below.refl X.heap.size X).drew))
      have HKX := hide ((HK.out.trans hk).trans (KeepR.of ((Below.refl X.heap.size X).drew)))
      clear hbk hk hX
      go_wp2
      go_roundw
      case rel => exact ⟨j + 1, by congr 1; omega, by omega, HBX, HKX⟩
      case measure => simp [intOf]; omega
    · have hle1 : ¬ (i : Int) ≤ (b : Int) := by omega
      have hje : j = b + 1 - a := by omega
      have HJ := hide hje
      clear hje
      go_wp2
      go_end0
      exact ⟨rfl, by rw [← HJ.out]; exact H.out, HK.out⟩
end Go.Proofs.YtfamoikmfbpigaaDoor
