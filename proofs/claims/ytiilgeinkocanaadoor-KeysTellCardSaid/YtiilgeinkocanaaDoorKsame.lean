/- Contract of limnerlaw09.Same. -/
import Derived.Test.YtiilgeinkocanaaDoorKtick
import Derived.Laws.StructEq
import Derived.KernelRfl
namespace Go.Proofs.YtiilgeinkocanaaDoor
open Go.RowKit

def kyV (k : Ky) : Value := .agg #[.int .i64 k.kind, .int .i32 k.r, .string k.text]
def sameK (c d : Ky) : Bool := decide (c = d)
theorem sameK_eq (c d : Ky) : sameK c d = (decide (c.kind = d.kind) && decide (c.r = d.r) && decide (c.text = d.text)) := by
  obtain ⟨k, r, t⟩ := c
  obtain ⟨k', r', t'⟩ := d
  unfold sameK
  rw [Bool.eq_iff_iff]
  simp [Ky.mk.injEq, and_assoc]
theorem toL_iff (a b : ByteArray) : a.toList = b.toList ↔ a = b := by
  rw [ByteArray.toList_eq, ByteArray.toList_eq]
  exact ⟨fun h => ByteArray.ext (Array.toList_inj.1 h), fun h => by rw [h]⟩
theorem eqKey (c d : Ky) (w : World) : (Op.equalIn 10000 26 (kyV c) (kyV d)).run Tryd.prog w = .ok (sameK c d) w := by
  have u3 := Tryd.underlying3
  have a3 := Tryd.isAgg3
  have z3 := Tryd.sizeOf3
  have u1 := Tryd.underlying21
  have a1 := Tryd.isAgg21
  have z1 := Tryd.sizeOf21
  have u9 := Tryd.underlying9
  have a9 := Tryd.isAgg9
  have z9 := Tryd.sizeOf9
  have hS : Tryd.prog.underlying 26 = some (.struct (Tryd.prog.fieldsOf 26)) := by kernel_rfl
  have hp : Tryd.prog.stoodInHeld 26 = false := by kernel_rfl
  unfold kyV
  rw [show (10000 : Nat) = 9999 + 1 from rfl, run_equalIn_agg w 9999 26 _ _ hS hp]
  simp only [Program.fieldsOf, Tryd.underlying26]
  go_simp
  rw [sameK_eq]
  by_cases h1 : c.kind = d.kind <;> by_cases h2 : c.r = d.r <;> by_cases h3 : c.text = d.text <;> simp [h1, h2, h3, beqB, toL_iff]
@[go_sem high] theorem neqKey (k r : Int) (t : ByteArray) (k' r' : Int) (t' : ByteArray) (w : World) :
    (binOp .neq 26 (.agg #[.int .i64 k, .int .i32 r, .string t]) (.agg #[.int .i64 k', .int .i32 r', .string t'])).run Tryd.prog w = .ok (.bool (!sameK ⟨k, r, t⟩ ⟨k', r', t'⟩)) w := by
  have h := eqKey ⟨k, r, t⟩ ⟨k', r', t'⟩ w
  unfold kyV at h
  rw [run_neq_struct, h]
  rfl
@[go_sem] theorem guardKey (op : BinOp) (x y : Operand) (xs ys : Array Value) (w : World) : (eqGuard op 26 x y (.agg xs) (.agg ys)).run Tryd.prog w = .ok () w := run_eqGuard_agg w op _ x y xs ys (by kernel_rfl)
theorem row_at {w : World} {A : Option Addr} {L : List Ky} {j : Nat} {k : Ky} (h : RowOf w 3 kyCells A L) (hj : L[j]? = some k) : ∃ b o, A = some ⟨b, o, none⟩ ∧ w.cell? ⟨b, o + j * 3, none⟩ = some (.int .i64 k.kind) ∧ w.cell? ⟨b, o + j * 3 + 1, none⟩ = some (.int .i32 k.r) ∧ w.cell? ⟨b, o + j * 3 + 2, none⟩ = some (.string k.text) := by
  obtain ⟨b, o, e, -, hc⟩ := h _ _ hj
  exact ⟨b, o, e, hc 0 _ rfl, hc 1 _ rfl, hc 2 _ rfl⟩
theorem take_split {L M : List Ky} {k : Nat} (h1 : L.length = M.length) (hk : ¬ k < L.length) (h : L.take k = M.take k) : L = M := by
  rwa [List.take_of_length_le (by omega), List.take_of_length_le (by omega)] at h
theorem take_same {L M : List Ky} {k : Nat} {a b : Ky} (ha : L[k]? = some a) (hb : M[k]? = some b) (h : L.take k = M.take k) (e : a = b) : L.take (k + 1) = M.take (k + 1) := by
  rw [List.take_add_one, List.take_add_one, ha, hb, h, e]
theorem take_diff {L M : List Ky} {k : Nat} {a b : Ky} (ha : L[k]? = some a) (hb : M[k]? = some b) (e : ¬ a = b) : ¬ L = M := by
  rintro rfl
  rw [ha] at hb
  exact e (Option.some.inj hb)
set_option maxRecDepth 100000 in
set_option maxHeartbeats 2000000 in
theorem same_any (a b : Value) (L M : List Ky) (w : World) (h : KeysV w a L) (h' : KeysV w b M) (hL : L.length ≤ 1000000) (hM : M.length ≤ 1000000) :
    Calls Tryd.prog 14 #[a, b] w fun e w' => e = .returned (.bool (decide (L = M))) ∧ Below w.heap.size w w' := by
  obtain ⟨A, c, rfl, hc, -, hr⟩ := h
  obtain ⟨A', c', rfl, hc', -, hr'⟩ := h'
  by_cases hl : L.length = M.length
  · have HL := hide hl
    have HR := hide hr
    have HR' := hide hr'
    obtain ⟨n, hn⟩ : ∃ n, L.length = n := ⟨_, rfl⟩
    have hn' : M.length = n := by omega
    have HN := hide hn
    have HN' := hide hn'
    rw [hn] at hc hL ⊢
    rw [hn'] at hc' ⊢
    clear hl hr hr' hM hn hn'
    go_enter Tryd.func14, Tryd.ntmps14
    go_wp2
    go_loopw [5] (fun i wr => ∃ k : Nat, i = .int .i64 k ∧ k ≤ n ∧ Hid (L.take k = M.take k) ∧ Hid (Below w.heap.size w wr)) (fun i _ => n - (intOf i).toNat)
    case atStart => exact ⟨0, rfl, by omega, hide (by simp), hide (Below.refl _ _)⟩
    case round =>
      obtain ⟨k, rfl, hk, HT, HB⟩ := hrel
      by_cases hlt : k < n
      · obtain ⟨x, hx⟩ : ∃ x, L[k]? = some x := ⟨_, List.getElem?_eq_getElem (by rw [HN.out]; exact hlt)⟩
        obtain ⟨y, hy⟩ : ∃ y, M[k]? = some y := ⟨_, List.getElem?_eq_getElem (by rw [HN'.out]; exact hlt)⟩
        obtain ⟨b, o, rfl, x0, x1, x2⟩ := row_at (HR.out.below HB.out) hx
        obtain ⟨b', o', rfl, y0, y1, y2⟩ := row_at (HR'.out.below HB.out) hy
        have hS := fun e => take_same hx hy HT.out e
        have hD := fun e => take_diff hx hy e
        clear hx hy
        obtain ⟨xk, xr, xt⟩ := x
        obtain ⟨yk, yr, yt⟩ := y
        dsimp only at x0 x1 x2 y0 y1 y2
        by_cases hs : (⟨xk, xr, xt⟩ : Ky) = ⟨yk, yr, yt⟩
        · have hb : sameK ⟨xk, xr, xt⟩ ⟨yk, yr, yt⟩ = true := decide_eq_true hs
          have HS := hide (hS hs)
          clear hS hD hs
          go_wp2
          go_quiet (fail)
          go_wp2
          go_roundw
          case rel => exact ⟨k + 1, by go_num, by omega, HS, hide (below_drewN HB.out _)⟩
          case measure => simp [intOf]; omega
        · have hb : sameK ⟨xk, xr, xt⟩ ⟨yk, yr, yt⟩ = false := decide_eq_false hs
          have HD := hide (hD hs)
          clear hS hD hs
          go_wp2
          go_quiet (fail)
          go_wp2
          go_ret
          exact ⟨ret_boolK (decide_eq_false HD.out).symm, below_drewN HB.out _⟩
      · go_wp2
        go_ret
        exact ⟨ret_boolK (decide_eq_true (take_split HL.out (by rw [HN.out]; exact hlt) HT.out)).symm, HB.out⟩
  · have HD := hide (show ¬ L = M from fun e => hl (by rw [e]))
    obtain ⟨n, hn⟩ : ∃ n, L.length = n := ⟨_, rfl⟩
    obtain ⟨m, hm⟩ : ∃ m, M.length = m := ⟨_, rfl⟩
    rw [hn] at hc hL hl ⊢
    rw [hm] at hc' hl ⊢
    have hb : ((n : Int) != (m : Int)) = true := by simp; omega
    clear hr hr' hn hm
    go_enter Tryd.func14, Tryd.ntmps14
    go_wp2
    go_ret
    exact ⟨ret_boolK (decide_eq_false HD.out).symm, Below.refl _ _⟩
end Go.Proofs.YtiilgeinkocanaaDoor
