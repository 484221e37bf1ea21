/- append of a byte to a row of one's own: the row stays, or a new one is made. -/
import Derived.Test.YtiilgeinkocanaaDoorKclean
namespace Go.Proofs.YtiilgeinkocanaaDoor
open Go.RowKit

theorem row_run (W : World) (B : Nat) (hB : B ≤ W.heap.size) (ty : TypeId) (v : Value) (n : Nat) (xs : List Value) (hown : W.ownsRow B 5 1 v n xs) (a : Nat) (x : Value) (hx : W.cell? ⟨a, 0, none⟩ = some x) (h1 : x.oneCell' = true) (hn : n ≤ 2000000) :
    ∃ v' w', (Builtin.append_ #[34, 34] ty #[v, .slice (some ⟨a, 0, none⟩) 1 1]).run Tryd.prog W = .ok v' w' ∧ w'.ownsRow B 5 1 v' (n + 1) (xs ++ [x]) ∧ W.grownBy w' v.ownBlock ∧ (∀ k, v'.ownBlock = some k → v.ownBlock = some k ∨ W.heap.size ≤ k) := by
  obtain ⟨i0, hi, hz0, hz1, hz2⟩ := info_parts info_byt
  have hnews : ∀ j u, [x][j]? = some u → W.cell? ((⟨a, 0, none⟩ : Addr).add j) = some u := by
    intro j u hj
    cases j with
    | zero => have e : x = u := by simpa using hj
              subst e
              rw [Addr.add_lit]; exact hx
    | succ j => simp at hj
  have hone : ∀ u ∈ [x], u.oneCell' = true := by intro u hu; rw [List.mem_singleton.1 hu]; exact h1
  obtain ⟨v', w', hr, h2, h3, h4⟩ := run_append_own (P := Tryd.prog) W B 34 ty 5 i0 (.int .u8 0) 1 1 Tryd.underlying34 hi hz0 hz1 hz2 rfl (by decide) v n xs hown ⟨a, 0, none⟩ 1 1 [x] rfl hnews hone (by unfold maxLen; omega) (by omega) hB
  refine ⟨v', w', hr, h2, h3, ?_⟩
  intro k hk
  rcases hown.2 with ⟨rfl, rfl⟩ | ⟨g, cap, cur, rfl, hbg, hg, hnc, hcm, hcs, htake⟩
  · have hx0 : xs = [] := List.eq_nil_of_length_eq_zero (by simpa using hown.1)
    subst hx0
    obtain ⟨v2, w2, hr2, h22, -⟩ := run_append_own (P := Tryd.prog) W W.heap.size 34 ty 5 i0 (.int .u8 0) 1 1 Tryd.underlying34 hi hz0 hz1 hz2 rfl (by decide) (.slice none 0 0) 0 [] (World.ownsRow_nil _ _ _ _) ⟨a, 0, none⟩ 1 1 [x] rfl hnews hone (by unfold maxLen; omega) (by omega) (Nat.le_refl _)
    rw [hr] at hr2
    injection hr2 with e1 e2
    subst e1
    exact .inr (h22.lt k hk).1
  · by_cases hroom : n + 1 ≤ cap
    · have hr2 := run_append_room (P := Tryd.prog) W 34 ty 5 i0 Tryd.underlying34 hi g n cap cur hg ⟨a, 0, none⟩ 1 1 [x] (by rw [hz1]; rfl) hnews hone hroom (by rw [hz1, hcs]; show n * 1 + 1 ≤ _; omega)
      rw [hr] at hr2
      injection hr2 with e1 e2
      subst e1
      exact .inl hk
    · have holds : ∀ j u, xs[j]? = some u → W.cell? ((⟨g, 0, none⟩ : Addr).add j) = some u := hown.cells (g := g) rfl
      have hr2 := run_append_grow (P := Tryd.prog) W 34 ty 5 i0 (.int .u8 0) Tryd.underlying34 hi hz0 ⟨g, 0, none⟩ n cap xs (by rw [hz1]; exact hown.1) holds ⟨a, 0, none⟩ 1 1 [x] (by rw [hz1]; rfl) hnews (by omega) (by unfold maxLen at *; omega) (growslice_fits (by unfold maxLen at *; omega) (by rw [hz2]; omega))
      rw [hr] at hr2
      injection hr2 with e1 e2
      subst e1
      have e3 : some W.heap.size = some k := hk
      injection e3 with e3
      right; omega
theorem wpList_row {ops : Array Oper} {rest : List Oper} {o : Oper} {a : Act} {Q : Exit → Act → World → Prop} (W : World) (hgd : o.guard = none) (s x : Operand)
    (hop : o.op = Op.call { callee := Callee.builtin Builtin.append, args := #[s, x], argTypes := #[34, 34] })
    (B : Nat) (hB : B ≤ W.heap.size) (v : Value) (n : Nat) (xs : List Value) (b : Nat) (u : Value) (hs : a.eval s = v) (hx : a.eval x = .slice (some ⟨b, 0, none⟩) 1 1) (hown : W.ownsRow B 5 1 v n xs) (hu : W.cell? ⟨b, 0, none⟩ = some u) (h1 : u.oneCell' = true) (hn : n ≤ 2000000)
    (hK : ∀ v' w', w'.ownsRow B 5 1 v' (n + 1) (xs ++ [u]) → W.grownBy w' v.ownBlock → (∀ k, v'.ownBlock = some k → v.ownBlock = some k ∨ W.heap.size ≤ k) → wpList Tryd.prog ops Q rest (a.put o.dst v') w') :
    wpList Tryd.prog ops Q (o :: rest) a W := by
  refine wpList_plain hgd fun K hK' => ?_
  obtain ⟨v', w', hrun, h2, h3, h4⟩ := row_run W B hB o.type v n xs hown b u hu h1 hn
  unfold Oper.wp
  simp [execOp, hop, resolve, invoke, builtin, hs, hx, hrun, Result.andThen]
  exact hK' _ _ (hK v' w' h2 h3 h4)
end Go.Proofs.YtiilgeinkocanaaDoor
