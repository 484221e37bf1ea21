/- regs: the map of signs; nodes that lie elsewhere; rows of nodes of one's own. -/
import Derived.Test.YtfamoikmfbpigaaDoorEatom
import Derived.Maps.OwnOps
import Derived.Maps.AppendAt
namespace Go.Proofs.YtfamoikmfbpigaaDoor
open Go.RowKit

def sgn (b : Nat) : Nat := if b = 42 then 4 else if b = 43 then 5 else if b = 63 then 6 else 0
def sigD : DataW Unit := Rows.laid_limner_regs_signs
theorem law8 : Go.Maps.Keyed Tryd.prog 5 := Go.Maps.int_keyed Tryd.underlying5
theorem zeroInt (w : World) : (zeroValue 3).run Tryd.prog w = .ok (.int .i64 0) w := by kernel_rfl
/-- The map of signs lies in block r. -/
def SGr (r : Nat) (W : World) : Prop := W.cell? ⟨1, 0, none⟩ = some (.map (some r)) ∧ W.ownsMap Tryd.prog 5 (plainElem Tryd.prog 3) r 3 sigD
theorem SGr.lt {r : Nat} {W : World} (h : SGr r W) : r < W.heap.size := h.2.lt
theorem SGr.keepR {r p : Nat} {w W : World} (h : SGr r w) (hk : KeepR p w W) (h1 : 1 ≠ p) (h2 : r ≠ p) : SGr r W := by
  refine ⟨hk.cell h.1 h1, ?_⟩
  obtain ⟨es, clock, hb, F, hs, hD⟩ := h.2
  exact ⟨es, clock, (hk.block r h.lt h2).trans hb, F, hs, hD⟩
theorem sig_at (b : Nat) (hb : b < 256) : sigD.atKey (.int .u8 b) (.lit (.int .i64 0)) = .lit (.int .i64 (sgn b : Int)) := by
  unfold sgn
  by_cases h1 : b = 42
  · subst h1; kernel_rfl
  by_cases h2 : b = 43
  · subst h2; kernel_rfl
  by_cases h3 : b = 63
  · subst h3; kernel_rfl
  rw [if_neg h1, if_neg h2, if_neg h3]
  have e1 : decide ((42 : Int) = (b : Int)) = false := decide_eq_false (by omega)
  have e2 : decide ((43 : Int) = (b : Int)) = false := decide_eq_false (by omega)
  have e3 : decide ((63 : Int) = (b : Int)) = false := decide_eq_false (by omega)
  unfold sigD Rows.laid_limner_regs_signs DataW.atKey
  simp [List.find?, Lit.sameKey, e1, e2, e3]
set_option maxRecDepth 100000 in
theorem SGr.look {r : Nat} {W : World} (h : SGr r W) (b : Nat) (hb : b < 256) : (Instr.lookup 99 (.map (some r)) (.int .u8 (b : Int)) false).run Tryd.prog W = .ok (.int .i64 (sgn b : Int)) W := by
  have hk : keyOf Tryd.prog 5 (.int .u8 (b : Int)) = some (.int .u8 (b : Int)) := by
    have h1 : IntKind.u8.min = 0 := by decide
    have h2 : IntKind.u8.max = 255 := by decide
    exact Go.Maps.keyOf_int_mk Tryd.underlying5 (by simp only [Lit.wf, h1, h2, Bool.and_eq_true, decide_eq_true_eq]; omega)
  obtain ⟨c, hrun, hat, -⟩ := h.2.lookup_int law8 Tryd.underlying99 Tryd.underlying3 (zeroInt W) hk
  rw [sig_at b hb] at hat
  injection hat with hat; injection hat with _ hat; subst hat
  exact hrun
/-- One operation of a region that draws its order is taken first. -/
theorem wpAnyH_at {P : Program} {md : Region.Mode} {ops : Array Oper} {Q : Exit → Act → World → Prop} {S : World → Prop} {i : Nat} {oi : Oper} {v : Value} {d : Tmp} {fuel : Nat} {listed : Array Bool} {a : Act} {w : World} (hi : ops[i]? = some oi) (hd : oi.dst = some d)
    (hs : Region.noSelect ops = true) (hf : Region.free md ops listed i = true) (hr : (Region.ready md ops listed).contains i = true)
    (hQ : ∀ c a w, Q (.panic c) (a.put (some d) v) w → Q (.panic c) a w) (hy : YieldsIf P ops S oi v a) (hS : S w)
    (h : wpAnyH P md ops Q S fuel (listed.setIfInBounds i true) (a.put (some d) v) w) : wpAnyH P md ops Q S (fuel + 1) listed a w :=
  wpAnyH_take hi hs hf hr (by rw [hd]; exact hQ) hy hS (by rw [hd]; exact h)
mutual
/-- A node's cells; what lies below it lies in such blocks. -/
def NdX (P : Nat → Prop) (W : World) : Nd → List Value → Prop
  | .mk k S kids, cs => ∃ A cap, cs = ndL k S (.slice A kids.length cap) ∧ W64 S ∧ kids.length ≤ cap ∧ cap ≤ maxLen ∧ NdsX P W kids A 0
def NdsX (P : Nat → Prop) (W : World) : List Nd → Option Addr → Nat → Prop
  | [], _, _ => True
  | x :: l, A, j => (∃ b o cs, A = some ⟨b, o, none⟩ ∧ (P b ∧ b < W.heap.size) ∧ cs.length = 6 ∧ (∀ i u, cs[i]? = some u → W.cell? ⟨b, o + j * 6 + i, none⟩ = some u) ∧ NdX P W x cs) ∧ NdsX P W l A (j + 1)
end
mutual
theorem NdX.keep {P Q : Nat → Prop} {w W : World} (hq : ∀ b, P b → b < w.heap.size → Q b) (hs : w.heap.size ≤ W.heap.size) (hk : ∀ b o u, P b → w.cell? ⟨b, o, none⟩ = some u → W.cell? ⟨b, o, none⟩ = some u) : ∀ (x : Nd) (cs : List Value), NdX P w x cs → NdX Q W x cs
  | .mk k S kids, cs, h => by
    unfold NdX at h ⊢
    obtain ⟨A, cap, h1, h2, h3, h4, h5⟩ := h
    exact ⟨A, cap, h1, h2, h3, h4, NdsX.keep hq hs hk kids A 0 h5⟩
theorem NdsX.keep {P Q : Nat → Prop} {w W : World} (hq : ∀ b, P b → b < w.heap.size → Q b) (hs : w.heap.size ≤ W.heap.size) (hk : ∀ b o u, P b → w.cell? ⟨b, o, none⟩ = some u → W.cell? ⟨b, o, none⟩ = some u) : ∀ (l : List Nd) (A : Option Addr) (j : Nat), NdsX P w l A j → NdsX Q W l A j
  | [], _, _, _ => by unfold NdsX; trivial
  | x :: l, A, j, h => by
    unfold NdsX at h ⊢
    obtain ⟨⟨b, o, cs, e, hb, hl, hc, hx⟩, h2⟩ := h
    exact ⟨⟨b, o, cs, e, ⟨hq b hb.1 hb.2, Nat.lt_of_lt_of_le hb.2 hs⟩, hl, fun i u hu => hk _ _ _ hb.1 (hc i u hu), NdX.keep hq hs hk x cs hx⟩, NdsX.keep hq hs hk l A (j + 1) h2⟩
end
mutual
theorem NdX.of {B : Nat} {W : World} : ∀ (x : Nd) (cs : List Value), NdAt B W x cs → NdX (fun b => B ≤ b) W x cs
  | .mk k S kids, cs, h => by
    unfold NdAt at h; unfold NdX
    obtain ⟨A, cap, h1, h2, h3, h4, h5⟩ := h
    exact ⟨A, cap, h1, h2, h3, h4, NdsX.of kids A 0 h5⟩
theorem NdsX.of {B : Nat} {W : World} : ∀ (l : List Nd) (A : Option Addr) (j : Nat), NdsAt B W l A j → NdsX (fun b => B ≤ b) W l A j
  | [], _, _, _ => by unfold NdsX; trivial
  | x :: l, A, j, h => by
    unfold NdsAt at h; unfold NdsX
    obtain ⟨⟨b, o, cs, e, hb, hl, hc, hx⟩, h2⟩ := h
    exact ⟨⟨b, o, cs, e, hb, hl, hc, NdX.of x cs hx⟩, NdsX.of l A (j + 1) h2⟩
end
mutual
theorem NdX.at {P : Nat → Prop} {B : Nat} {W : World} (hq : ∀ b, P b → B ≤ b) : ∀ (x : Nd) (cs : List Value), NdX P W x cs → NdAt B W x cs
  | .mk k S kids, cs, h => by
    unfold NdX at h; unfold NdAt
    obtain ⟨A, cap, h1, h2, h3, h4, h5⟩ := h
    exact ⟨A, cap, h1, h2, h3, h4, NdsX.at hq kids A 0 h5⟩
theorem NdsX.at {P : Nat → Prop} {B : Nat} {W : World} (hq : ∀ b, P b → B ≤ b) : ∀ (l : List Nd) (A : Option Addr) (j : Nat), NdsX P W l A j → NdsAt B W l A j
  | [], _, _, _ => by unfold NdsAt; trivial
  | x :: l, A, j, h => by
    unfold NdsX at h; unfold NdsAt
    obtain ⟨⟨b, o, cs, e, hb, hl, hc, hx⟩, h2⟩ := h
    exact ⟨⟨b, o, cs, e, ⟨hq b hb.1, hb.2⟩, hl, hc, NdX.at hq x cs hx⟩, NdsX.at hq l A (j + 1) h2⟩
end
theorem NdX.form {P : Nat → Prop} {W : World} {x : Nd} {cs : List Value} (h : NdX P W x cs) : ∃ (k : Int) (x0 x1 x2 x3 : Nat) (A : Option Addr) (m cap : Nat), cs = ndL k [x0, x1, x2, x3] (.slice A m cap) ∧ m ≤ cap ∧ cap ≤ maxLen := by
  cases x with
  | mk k S kids =>
    unfold NdX at h
    obtain ⟨A, cap, rfl, hw, h3, h4, -⟩ := h
    obtain ⟨a, b, c, d, rfl⟩ := four hw.1
    exact ⟨k, a, b, c, d, A, kids.length, cap, rfl, h3, h4⟩
theorem NdX.len {P : Nat → Prop} {W : World} {x : Nd} {cs : List Value} (h : NdX P W x cs) : cs.length = 6 := by
  obtain ⟨k, a, b, c, d, A, m, cap, rfl, -⟩ := h.form; rfl
theorem NdX.one {P : Nat → Prop} {W : World} {x : Nd} {cs : List Value} (h : NdX P W x cs) : ∀ u ∈ cs, u.oneCell' = true := by
  obtain ⟨k, a, b, c, d, A, m, cap, rfl, -⟩ := h.form
  intro u hu
  simp [ndL] at hu
  rcases hu with rfl | rfl | rfl | rfl | rfl | rfl <;> rfl
theorem NdsX.get {P : Nat → Prop} {W : World} : ∀ {l : List Nd} {A : Option Addr} {j : Nat}, NdsX P W l A j → ∀ i x, l[i]? = some x → ∃ b o cs, A = some ⟨b, o, none⟩ ∧ (P b ∧ b < W.heap.size) ∧ cs.length = 6 ∧ (∀ q u, cs[q]? = some u → W.cell? ⟨b, o + (j + i) * 6 + q, none⟩ = some u) ∧ NdX P W x cs
  | [], _, _, _, i, x, hx => by simp at hx
  | y :: l, A, j, h, 0, x, hx => by
    unfold NdsX at h
    simp at hx; subst hx
    exact h.1
  | y :: l, A, j, h, i + 1, x, hx => by
    unfold NdsX at h
    obtain ⟨b, o, cs, h1, h2, h3, h4, h5⟩ := NdsX.get h.2 i x (by simpa using hx)
    exact ⟨b, o, cs, h1, h2, h3, by rw [show j + (i + 1) = j + 1 + i by omega]; exact h4, h5⟩
theorem NdsX.mk {P : Nat → Prop} {W : World} {b o : Nat} (hb : P b ∧ b < W.heap.size) : ∀ (l : List Nd) (j : Nat), (∀ i x, l[i]? = some x → ∃ cs, cs.length = 6 ∧ (∀ q u, cs[q]? = some u → W.cell? ⟨b, o + (j + i) * 6 + q, none⟩ = some u) ∧ NdX P W x cs) → NdsX P W l (some ⟨b, o, none⟩) j
  | [], _, _ => by unfold NdsX; trivial
  | x :: l, j, h => by
    unfold NdsX
    refine ⟨?_, NdsX.mk hb l (j + 1) (fun i y hy => ?_)⟩
    · obtain ⟨cs, h1, h2, h3⟩ := h 0 x rfl
      exact ⟨b, o, cs, rfl, hb, h1, h2, h3⟩
    · obtain ⟨cs, h1, h2, h3⟩ := h (i + 1) y (by simpa using hy)
      exact ⟨cs, h1, by rw [show j + 1 + i = j + (i + 1) by omega]; exact h2, h3⟩

/-- A row of nodes of one's own: their cells lie side by side; what lies below them lies elsewhere. -/
def RowN (W : World) (B : Nat) (v : Value) (L : List Nd) : Prop :=
  ∃ Cs : List (List Value), Cs.length = L.length ∧ (∀ cs ∈ Cs, cs.length = 6) ∧ W.ownsRow B 27 6 v L.length Cs.flatten ∧ ∀ (j : Nat) (x : Nd), L[j]? = some x → ∃ cs, Cs[j]? = some cs ∧ NdX (fun b => B ≤ b ∧ some b ≠ v.ownBlock) W x cs
theorem infoN : (Tryd.prog.info? 27).map (fun i => (i.zero, i.size, i.bytes)) = some (some (.agg #[.int .i64 0, .int .u64 0, .int .u64 0, .int .u64 0, .int .u64 0, .slice none 0 0]), 6, 64) := by kernel_rfl
theorem infoN_parts : ∃ i, Tryd.prog.info? 27 = some i ∧ i.zero = some (.agg #[.int .i64 0, .int .u64 0, .int .u64 0, .int .u64 0, .int .u64 0, .slice none 0 0]) ∧ i.size = 6 ∧ i.bytes = 64 := by
  have h := infoN
  cases hi : Tryd.prog.info? 27 with
  | none => rw [hi] at h; cases h
  | some i =>
    rw [hi] at h
    simp only [Option.map_some, Option.some.injEq, Prod.mk.injEq] at h
    exact ⟨i, rfl, h⟩
theorem RowN.nil (W : World) (B : Nat) : RowN W B (.slice none 0 0) [] := ⟨[], rfl, by simp, World.ownsRow_nil W B _ 6, by simp⟩
theorem RowN.keep {W V : World} {B : Nat} {v : Value} {L : List Nd} (h : RowN W B v L) (hs : W.heap.size ≤ V.heap.size) (hk : ∀ b, B ≤ b → b < W.heap.size → V.heap[b]? = W.heap[b]?) : RowN V B v L := by
  obtain ⟨Cs, h1, h2, h3, h4⟩ := h
  refine ⟨Cs, h1, h2, ?_, fun j x hx => ?_⟩
  · refine ⟨h3.1, ?_⟩
    rcases h3.2 with h | ⟨g, cap, cur, e1, e2, e3, e4⟩
    · exact .inl h
    · exact .inr ⟨g, cap, cur, e1, e2, (hk g e2 (Array.getElem?_eq_some_iff.1 e3).1).trans e3, e4⟩
  · obtain ⟨cs, e1, e2⟩ := h4 j x hx
    exact ⟨cs, e1, NdX.keep (fun _ h _ => h) hs (fun b o u hb hc => (World.cell?_of_block (hk b hb.1 (World.block_lt_of_cell? _ _ hc))).trans hc) x cs e2⟩
theorem flat_at {Cs : List (List Value)} (h6 : ∀ cs ∈ Cs, cs.length = 6) : ∀ (j q : Nat) (cs : List Value) (u : Value), Cs[j]? = some cs → cs[q]? = some u → Cs.flatten[j * 6 + q]? = some u := by
  induction Cs with
  | nil => intro j q cs u h; simp at h
  | cons c Cs ih =>
    intro j q cs u h hu
    have hc := h6 c (by simp)
    cases j with
    | zero =>
      simp at h; subst h
      rw [List.flatten_cons, Nat.zero_mul, Nat.zero_add, List.getElem?_append_left (List.getElem?_eq_some_iff.1 hu).1]; exact hu
    | succ j =>
      rw [List.flatten_cons, List.getElem?_append_right (by omega), show (j + 1) * 6 + q - c.length = j * 6 + q by omega]
      exact ih (fun cs hcs => h6 cs (by simp [hcs])) j q cs u (by simpa using h) hu
/-- What a row's nodes are, as a node's kids. -/
theorem RowN.kids {W : World} {B : Nat} {v : Value} {L : List Nd} (h : RowN W B v L) : ∃ A cap, v = .slice A L.length cap ∧ L.length ≤ cap ∧ cap ≤ maxLen ∧ NdsX (fun b => B ≤ b) W L A 0 := by
  obtain ⟨Cs, h1, h2, h3, h4⟩ := h
  rcases h3.2 with ⟨rfl, hn⟩ | ⟨g, cap, cur, rfl, e2, e3, e4, e5, e6, e7⟩
  · have : L = [] := List.eq_nil_of_length_eq_zero hn
    subst this
    exact ⟨none, 0, rfl, Nat.le_refl _, by unfold maxLen; omega, by unfold NdsX; trivial⟩
  · refine ⟨some ⟨g, 0, none⟩, cap, rfl, e4, e5, NdsX.mk ⟨e2, (Array.getElem?_eq_some_iff.1 e3).1⟩ L 0 (fun i x hx => ?_)⟩
    obtain ⟨cs, k1, k2⟩ := h4 i x hx
    refine ⟨cs, k2.len, fun q u hu => ?_, NdX.keep (fun _ h _ => h.1) (Nat.le_refl _) (fun _ _ _ _ h => h) x cs k2⟩
    have hf := flat_at h2 i q cs u k1 hu
    have := h3.cells (g := g) rfl (i * 6 + q) u hf
    rw [← this]
    congr 1
    unfold Addr.add
    split <;> simp_all
theorem RowN.one {W : World} {B b : Nat} {x : Nd} {cs : List Value} (hb : Blk W b 27 cs) (hB : B ≤ b) (hx : NdX (fun c => B ≤ c ∧ c ≠ b) W x cs) : RowN W B (.slice (some ⟨b, 0, none⟩) 1 1) [x] := by
  refine ⟨[cs], rfl, fun c hc => by simp at hc; rw [hc]; exact hx.len, ⟨by simp [hx.len], .inr ⟨b, 1, cs.toArray, rfl, hB, hb, Nat.le_refl _, by unfold maxLen; omega, by simp [hx.len], by rw [List.take_of_length_le (by simp [hx.len])]; simp⟩⟩, fun j y hy => ?_⟩
  match j, hy with
  | 0, hy =>
    simp at hy; subst hy
    exact ⟨cs, rfl, NdX.keep (fun c h _ => ⟨h.1, fun e => h.2 (by simpa [Value.ownBlock] using e)⟩) (Nat.le_refl _) (fun _ _ _ _ h => h) _ _ hx⟩
  | j + 1, hy => simp at hy
/-- Append of a node. -/
theorem RowN.app {W V : World} {B : Nat} {v v' : Value} {L : List Nd} {x : Nd} {cs : List Value} {Cs : List (List Value)} (h1 : Cs.length = L.length) (h2 : ∀ cs ∈ Cs, cs.length = 6) (h4 : ∀ (j : Nat) (x : Nd), L[j]? = some x → ∃ cs, Cs[j]? = some cs ∧ NdX (fun b => B ≤ b ∧ some b ≠ v.ownBlock) W x cs)
    (hx : NdX (fun b => B ≤ b ∧ some b ≠ v.ownBlock) W x cs) (hown : V.ownsRow B 27 6 v' (L.length + 1) (Cs.flatten ++ cs)) (hg : W.grownBy V v.ownBlock) (hat : v'.ownBlock = v.ownBlock ∨ v'.ownBlock = some W.heap.size) : RowN V B v' (L ++ [x]) := by
  have hmv : ∀ (y : Nd) (c : List Value), NdX (fun b => B ≤ b ∧ some b ≠ v.ownBlock) W y c → NdX (fun b => B ≤ b ∧ some b ≠ v'.ownBlock) V y c := fun y c hy =>
    NdX.keep (fun b hb hlt => ⟨hb.1, by
      rcases hat with h | h
      · rw [h]; exact hb.2
      · rw [h]; intro e; injection e with e; omega⟩) hg.size (fun b o u hb hc => hg.cell hc hb.2) y c hy
  refine ⟨Cs ++ [cs], by simp [h1], fun c hc => ?_, by simpa using hown, fun j y hy => ?_⟩
  · rcases List.mem_append.1 hc with h | h
    · exact h2 c h
    · simp at h; rw [h]; exact hx.len
  · by_cases hj : j < L.length
    · rw [List.getElem?_append_left hj] at hy
      obtain ⟨c, e1, e2⟩ := h4 j y hy
      exact ⟨c, by rw [List.getElem?_append_left (by omega)]; exact e1, hmv _ _ e2⟩
    · rw [List.getElem?_append_right (by omega)] at hy
      have : j = L.length := by
        have := (List.getElem?_eq_some_iff.1 hy).1
        simp at this; omega
      subst this
      simp at hy; subst hy
      exact ⟨cs, by rw [List.getElem?_append_right (by omega), h1]; simp, hmv _ _ hx⟩
end Go.Proofs.YtfamoikmfbpigaaDoor
