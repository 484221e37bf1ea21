/- Rows of nodes of the document's. -/
import Derived.Test.YtfamoikmfbpigaaDoorErow
import Derived.Deep.RegionLaw
namespace Go.Proofs.YtfamoikmfbpigaaDoor
open Go.RowKit

/-- A row of nodes of one's own: their cells lie side by side; what lies below them lies elsewhere. -/
def RowM (W : World) (B : Nat) (v : Value) (L : List Nd) : Prop :=
  ∃ Cs : List (List Value), Cs.length = L.length ∧ (∀ cs ∈ Cs, cs.length = 6) ∧ W.ownsRow B 33 6 v L.length Cs.flatten ∧ ∀ (j : Nat) (x : Nd), L[j]? = some x → ∃ cs, Cs[j]? = some cs ∧ NdX (fun b => B ≤ b ∧ some b ≠ v.ownBlock) W x cs
theorem infoM : (Tryd.prog.info? 33).map (fun i => (i.zero, i.size, i.bytes)) = some (some (.agg #[.int .i64 0, .int .u64 0, .int .u64 0, .int .u64 0, .int .u64 0, .slice none 0 0]), 6, 64) := by kernel_rfl
theorem infoM_parts : ∃ i, Tryd.prog.info? 33 = some i ∧ i.zero = some (.agg #[.int .i64 0, .int .u64 0, .int .u64 0, .int .u64 0, .int .u64 0, .slice none 0 0]) ∧ i.size = 6 ∧ i.bytes = 64 := by
  have h := infoM
  cases hi : Tryd.prog.info? 33 with
  | none => rw [hi] at h; cases h
  | some i =>
    rw [hi] at h
    simp only [Option.map_some, Option.some.injEq, Prod.mk.injEq] at h
    exact ⟨i, rfl, h⟩
theorem RowM.nil (W : World) (B : Nat) : RowM W B (.slice none 0 0) [] := ⟨[], rfl, by simp, World.ownsRow_nil W B _ 6, by simp⟩
theorem RowM.keep {W V : World} {B : Nat} {v : Value} {L : List Nd} (h : RowM W B v L) (hs : W.heap.size ≤ V.heap.size) (hk : ∀ b, B ≤ b → b < W.heap.size → V.heap[b]? = W.heap[b]?) : RowM V B v L := by
  obtain ⟨Cs, h1, h2, h3, h4⟩ := h
  refine ⟨Cs, h1, h2, ?_, fun j x hx => ?_⟩
  · refine ⟨h3.1, ?_⟩
    rcases h3.2 with h | ⟨g, cap, cur, e1, e2, e3, e4⟩
    · exact .inl h
    · exact .inr ⟨g, cap, cur, e1, e2, (hk g e2 (Array.getElem?_eq_some_iff.1 e3).1).trans e3, e4⟩
  · obtain ⟨cs, e1, e2⟩ := h4 j x hx
    exact ⟨cs, e1, NdX.keep (fun _ h _ => h) hs (fun b o u hb hc => (World.cell?_of_block (hk b hb.1 (World.block_lt_of_cell? _ _ hc))).trans hc) x cs e2⟩
/-- What a row's nodes are, as a node's kids. -/
theorem RowM.kids {W : World} {B : Nat} {v : Value} {L : List Nd} (h : RowM W B v L) : ∃ A cap, v = .slice A L.length cap ∧ L.length ≤ cap ∧ cap ≤ maxLen ∧ NdsX (fun b => B ≤ b) W L A 0 := by
  obtain ⟨Cs, h1, h2, h3, h4⟩ := h
  rcases h3.2 with ⟨rfl, hn⟩ | ⟨g, cap, cur, rfl, e2, e3, e4, e5, e6, e7⟩
  · have : L = [] := List.eq_nil_of_length_eq_zero hn
    subst this
    exact ⟨none, 0, rfl, Nat.le_refl _, by unfold maxLen; omega, by unfold NdsX; trivial⟩
  · refine ⟨some ⟨g, 0, none⟩, cap, rfl, e4, e5, NdsX.mk ⟨e2, (Array.getElem?_eq_some_iff.1 e3).1⟩ L 0 (fun i x hx => ?_)⟩
    obtain ⟨cs, k1, k2⟩ := h4 i x hx
    refine ⟨cs, k2.len, fun q u hu => ?_, NdX.keep (fun _ h _ => h.1) (Nat.le_refl _) (fun _ _ _ _ h => h) x cs k2⟩
    have hf := flat_at h2 i q cs u k1 hu
    have := h3.cells (g := g) rfl (i * 6 + q) u hf
    rw [← this]
    congr 1
    unfold Addr.add
    split <;> simp_all
theorem RowM.one {W : World} {B b : Nat} {x : Nd} {cs : List Value} (hb : Blk W b 33 cs) (hB : B ≤ b) (hx : NdX (fun c => B ≤ c ∧ c ≠ b) W x cs) : RowM W B (.slice (some ⟨b, 0, none⟩) 1 1) [x] := by
  refine ⟨[cs], rfl, fun c hc => by simp at hc; rw [hc]; exact hx.len, ⟨by simp [hx.len], .inr ⟨b, 1, cs.toArray, rfl, hB, hb, Nat.le_refl _, by unfold maxLen; omega, by simp [hx.len], by rw [List.take_of_length_le (by simp [hx.len])]; simp⟩⟩, fun j y hy => ?_⟩
  match j, hy with
  | 0, hy =>
    simp at hy; subst hy
    exact ⟨cs, rfl, NdX.keep (fun c h _ => ⟨h.1, fun e => h.2 (by simpa [Value.ownBlock] using e)⟩) (Nat.le_refl _) (fun _ _ _ _ h => h) _ _ hx⟩
  | j + 1, hy => simp at hy
/-- Append of a node. -/
theorem RowM.app {W V : World} {B : Nat} {v v' : Value} {L : List Nd} {x : Nd} {cs : List Value} {Cs : List (List Value)} (h1 : Cs.length = L.length) (h2 : ∀ cs ∈ Cs, cs.length = 6) (h4 : ∀ (j : Nat) (x : Nd), L[j]? = some x → ∃ cs, Cs[j]? = some cs ∧ NdX (fun b => B ≤ b ∧ some b ≠ v.ownBlock) W x cs)
    (hx : NdX (fun b => B ≤ b ∧ some b ≠ v.ownBlock) W x cs) (hown : V.ownsRow B 33 6 v' (L.length + 1) (Cs.flatten ++ cs)) (hg : W.grownBy V v.ownBlock) (hat : v'.ownBlock = v.ownBlock ∨ v'.ownBlock = some W.heap.size) : RowM V B v' (L ++ [x]) := by
  have hmv : ∀ (y : Nd) (c : List Value), NdX (fun b => B ≤ b ∧ some b ≠ v.ownBlock) W y c → NdX (fun b => B ≤ b ∧ some b ≠ v'.ownBlock) V y c := fun y c hy =>
    NdX.keep (fun b hb hlt => ⟨hb.1, by
      rcases hat with h | h
      · rw [h]; exact hb.2
      · rw [h]; intro e; injection e with e; omega⟩) hg.size (fun b o u hb hc => hg.cell hc hb.2) y c hy
  refine ⟨Cs ++ [cs], by simp [h1], fun c hc => ?_, by simpa using hown, fun j y hy => ?_⟩
  · rcases List.mem_append.1 hc with h | h
    · exact h2 c h
    · simp at h; rw [h]; exact hx.len
  · by_cases hj : j < L.length
    · rw [List.getElem?_append_left hj] at hy
      obtain ⟨c, e1, e2⟩ := h4 j y hy
      exact ⟨c, by rw [List.getElem?_append_left (by omega)]; exact e1, hmv _ _ e2⟩
    · rw [List.getElem?_append_right (by omega)] at hy
      have : j = L.length := by
        have := (List.getElem?_eq_some_iff.1 hy).1
        simp at this; omega
      subst this
      simp at hy; subst hy
      exact ⟨cs, by rw [List.getElem?_append_right (by omega), h1]; simp, hmv _ _ hx⟩
theorem RowM.own {W : World} {B : Nat} {v : Value} {L : List Nd} (h : RowM W B v L) : ∀ q, v.ownBlock = some q → B ≤ q ∧ q < W.heap.size := by
  intro q hq
  obtain ⟨Cs, h1, h2, h3, h4⟩ := h
  rcases h3.2 with ⟨rfl, -⟩ | ⟨g, cap, cur, rfl, e2, e3, -⟩
  · cases hq
  · injection hq with hq; subst hq
    exact ⟨e2, (Array.getElem?_eq_some_iff.1 e3).1⟩
theorem new_atM (W : World) (cs : List Value) : ∀ j u, cs[j]? = some u → (W.alloc (.cells cs.toArray 33)).cell? ((⟨W.heap.size, 0, none⟩ : Addr).add j) = some u := by
  intro j u hu
  have h := (Blk.new W 33 cs).cell (i := j) hu
  rw [← h]
  congr 1
  unfold Addr.add
  split <;> simp_all
theorem nd_putT {T : TypeId} {W : World} {z : Nat} {k0 : Int} {a0 b0 c0 d0 : Nat} {v0 : Value} (h : Blk W z T (ndL k0 [a0, b0, c0, d0] v0)) (k : Int) (a b c d : Nat) (v : Value) : Blk (ndSet W z k a b c d v) z T (ndL k [a, b, c, d] v) :=
  (((((h.set 0 _).set 1 _).set 2 _).set 3 _).set 4 _).set 5 _
theorem RowM.below {W V : World} {B : Nat} {v : Value} {L : List Nd} (h : RowM W B v L) (hb : Below W.heap.size W V) : RowM V B v L := h.keep hb.size (fun b _ hlt => hb.block b hlt)
set_option maxRecDepth 100000 in
/-- One node is hung on: as one step of a region that draws its order. -/
theorem step_appM {ops : Array Oper} {o : Oper} {a : Act} {W : World} {K : Act → World → Prop} {Q : Exit → Act → World → Prop} {X : Prop} (hgd : o.guard = none) (s x : Operand)
    (hop : o.op = Op.call { callee := Callee.builtin Builtin.append, args := #[s, x], argTypes := #[31, 31] })
    (B : Nat) (hB : B ≤ W.heap.size) (v : Value) (L : List Nd) (n : Nd) (b : Nat) (cs : List Value) (hs : a.eval s = v) (hx : a.eval x = .slice (some ⟨b, 0, none⟩) 1 1) (hrow : RowM W B v L) (hb : Blk W b 33 cs) (hn : NdX (fun c => B ≤ c ∧ some c ≠ v.ownBlock) W n cs) (hlen : L.length ≤ 1000000)
    (hK : ∀ v' w', RowM w' B v' (L ++ [n]) → Below B W w' → K (a.put o.dst v') w') :
    if Region.wanted o (yielded ops a.tmps) = true then Oper.wp Tryd.prog o a W K Q else X := by
  have hw : Region.wanted o (yielded ops a.tmps) = true := by simp [Region.wanted, hgd]
  rw [if_pos hw]
  obtain ⟨i0, hi, hz0, hz1, hz2⟩ := infoM_parts
  obtain ⟨Cs, hc1, hc2, hc3, hc4⟩ := hrow
  obtain ⟨v', w', hrun, h1, h2, -, h4⟩ := run_append_own_at (P := Tryd.prog) W B 31 o.type 33 i0 _ 6 64 Tryd.underlying31 hi hz0 hz1 hz2 (by rfl) (by decide) v L.length Cs.flatten hc3 ⟨b, 0, none⟩ 1 1 cs (by rw [hn.len])
    (fun j u hu => by have := hb.cell (i := j) hu; rw [← this]; congr 1; unfold Addr.add; split <;> simp_all) (NdX.one hn) (by unfold maxLen; omega) (by omega) hB
  unfold Oper.wp
  simp [execOp, hop, resolve, invoke, builtin, hs, hx, hrun, Result.andThen]
  exact hK v' w' (RowM.app hc1 hc2 hc4 hn h1 h2 h4) ((Below.refl _ _).grown h2 hB (fun k e => (World.ownsRow.lt hc3 k e).1))
/-- A call of a function of one argument, as one step of a region that draws its order. -/
theorem step_fn1 {ops : Array Oper} {o : Oper} {a : Act} {W : World} {K : Act → World → Prop} {Q : Exit → Act → World → Prop} {E : Prop}
    (hgd : o.guard = none) (f : Nat) (fn : Func) (hf : Tryd.prog.funcs[f]? = some fn) (hnm : ¬ fn.name = "runtime.NumGoroutine") (hbd : ¬ fn.body = Option.none) (x : Operand) (ty : Array TypeId) (hop : o.op = Op.call { callee := Callee.value (.func f), args := #[x], argTypes := ty })
    (vx : Value) (hx : a.eval x = vx) (Post : Value → World → Prop) (hc : Calls Tryd.prog f #[vx] W fun e w' => ∃ v, e = .returned v ∧ Post v w')
    (hK : ∀ v w', Post v w' → K (a.put o.dst v) w') :
    if Region.wanted o (yielded ops a.tmps) = true then Oper.wp Tryd.prog o a W K Q else E := by
  have hw : Region.wanted o (yielded ops a.tmps) = true := by simp [Region.wanted, hgd]
  rw [if_pos hw]
  unfold Oper.wp
  have he : a.eval (Operand.func f) = Value.func (Fn.func f) #[] #[] := rfl
  simp [execOp, hop, resolve, invoke, hx, he, Result.andThen, Deferred.ofValue, callFunc, hf, hnm, hbd]
  refine hc.mono ?_
  rintro e w' ⟨v, rfl, hp⟩
  exact hK v w' hp
end Go.Proofs.YtfamoikmfbpigaaDoor
