/- Appending a state to a row, as one step of a region that draws its order. -/
import Derived.Test.YtgpcpfohfoeclaaUapp
import Derived.Deep.RegionLawGrows
namespace Go.Proofs.Ytgpcpfohfoeclaa
open Go.RowKit

theorem step_row {ops : Array Oper} {o : Oper} {a : Act} {W : World} {K : Act → World → Prop} {Q : Exit → Act → World → Prop} {E : Prop}
    (hgd : o.guard = none) (s x : Operand) (hop : o.op = Op.call { callee := Callee.builtin Builtin.append, args := #[s, x], argTypes := #[55, 55] })
    (v : Value) (L : List (Nat × Int × ByteArray)) (B : Nat) (hs : a.eval s = v) (hrow : Row W B v L) (hB : B ≤ W.heap.size) (hlen : L.length ≤ 100000) (y : Nat × Int × ByteArray)
    (ad : Addr) (hx : a.eval x = .slice (some ad) 1 1) (hc : ∀ j u, ([.pointer (some ⟨y.1, 0, none⟩), .int .i64 y.2.1] : List Value)[j]? = some u → W.cell? (ad.add j) = some u)
    (hK : ∀ v' w', Row w' B v' (L ++ [y]) → W.grownBy w' v.ownBlock → (∀ k, v'.ownBlock = some k → v.ownBlock = some k ∨ W.heap.size ≤ k) → K (a.put o.dst v') w') :
    if Region.wanted o (yielded ops a.tmps) = true then Oper.wp Try.prog o a W K Q else E := by
  have hw : Region.wanted o (yielded ops a.tmps) = true := by simp [Region.wanted, hgd]
  rw [if_pos hw]
  obtain ⟨i0, hi, hz0, hz1, hz2⟩ := info_parts info_state
  have hfl := flat_len L
  have e1 : (L ++ [y]).length = L.length + 1 := by simp
  rcases hrow with ⟨rfl, rfl⟩ | ⟨g, off, cap, rfl, hg, hty, hl, h1, h2, h3, h4, h5⟩
  · obtain ⟨v', w', hrun, r1, r2, _⟩ := run_append_own (P := Try.prog) W W.heap.size 55 o.type 54 i0 _ 2 16 Try.underlying55 hi hz0 hz1 hz2 rfl (by decide) (.slice none 0 0) 0 [] (World.ownsRow_nil W _ _ 2) ad 1 1 [.pointer (some ⟨y.1, 0, none⟩), .int .i64 y.2.1] rfl hc (by simp [Value.oneCell']) (by unfold maxLen; omega) (by omega) (Nat.le_refl _)
    unfold Oper.wp
    simp [execOp, hop, resolve, invoke, builtin, hs, hx, hrun, Result.andThen]
    have hr9 : Row w' W.heap.size v' ([] ++ [y]) := Row.of_own (L := [] ++ [y]) r1
    exact hK v' w' (Row.mono hr9 hB) r2 (fun k e => .inr (hr9.own k e))
  · have hrow' : Row W B (.slice (some ⟨g, off, none⟩) L.length cap) L := .inr ⟨g, off, cap, rfl, hg, hty, hl, h1, h2, h3, h4, h5⟩
    by_cases hr : L.length + 1 ≤ cap
    · have hrun := run_append_room_cells (P := Try.prog) W 55 o.type 54 i0 Try.underlying55 hi g off L.length cap ad 1 1 [.pointer (some ⟨y.1, 0, none⟩), .int .i64 y.2.1] (by rw [hz1]; rfl) hc (by simp [Value.oneCell']) hr
        (fun j hj => by rw [hz1, Nat.add_assoc]; exact h3 _ (by simp at hj; omega)) (fun j hj => h4 _)
      rw [hz1] at hrun
      unfold Oper.wp
      simp [execOp, hop, resolve, invoke, builtin, hs, hx, hrun, Result.andThen]
      exact hK _ _ (by have := hrow'.room y hr; rw [← e1] at this; rw [← e1]; exact this) (grown_setCells _ _ _ _) (fun k e => .inl e)
    · obtain ⟨v', w', hrun, r1, r2⟩ := run_append_arg_grows (P := Try.prog) W 55 o.type 54 i0 _ 2 16 Try.underlying55 hi hz0 hz1 hz2 rfl (by decide) ⟨g, off, none⟩ L.length cap (flat L) hfl (fun j u hj => by rw [Addr.add_lit]; exact h5 j u hj) ad 1 1 [.pointer (some ⟨y.1, 0, none⟩), .int .i64 y.2.1] rfl hc (by omega) (by unfold maxLen; omega) (by omega)
      unfold Oper.wp
      simp [execOp, hop, resolve, invoke, builtin, hs, hx, hrun, Result.andThen]
      have hr9 : Row w' W.heap.size v' (L ++ [y]) := Row.of_own (by rw [e1, flat_snoc]; exact r1)
      exact hK v' w' (Row.mono hr9 hB) ⟨r2.os, r2.tape, r2.output, r2.size, fun k hk _ => r2.block k hk (by simp)⟩ (fun k e => .inr (hr9.own k e))
end Go.Proofs.Ytgpcpfohfoeclaa
