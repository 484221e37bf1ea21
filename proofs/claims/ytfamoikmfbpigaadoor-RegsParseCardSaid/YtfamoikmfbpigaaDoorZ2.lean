/- regs: the map of signs; nodes that lie elsewhere; rows of nodes of one's own. From the rows' listed variable to the map of signs. regs.Has, limnerref10.Has. Two arrays of four words, compared. regs: joined, piece. regs.Same. A node that comes in. Regs: the rows' list, and a world that meets it. regs: row, rows. -/
import Derived.Test.YtfamoikmfbpigaaDoorZ1
import Derived.Maps.OwnOps
import Derived.Maps.AppendAt
import Derived.Lib.LaidU8
import Derived.LaidMore
import Derived.Maps.OwnSet
import Derived.Laws.Bits64
import Derived.Laws.Bits64b
import Derived.Laws.StructEq
import Derived.KernelRfl
import Derived.Laws.IdiomArrays
import Derived.OpenShut
import Derived.Test.YtfamoikmfbpigaaDoorCards
import Derived.Test.YtfamoikmfbpigaaDoorTie
import Derived.PinnedBridge
import Derived.Lay
import Derived.SevenTiedAt
import Derived.Stop.Joined
import Derived.Deep.Strs
import Derived.Handed
namespace Go.Proofs.YtfamoikmfbpigaaDoor
open Go.RowKit

def sgn (b : Nat) : Nat := if b = 42 then 4 else if b = 43 then 5 else if b = 63 then 6 else 0
def sigD : DataW Unit := Rows.laid_limner_regs_signs
theorem law8 : Go.Maps.Keyed Tryd.prog 5 := Go.Maps.int_keyed Tryd.underlying5
theorem zeroInt (w : World) : (zeroValue 3).run Tryd.prog w = .ok (.int .i64 0) w := by kernel_rfl
/-- The map of signs lies in block r. -/
def SGr (r : Nat) (W : World) : Prop := W.cell? ⟨1, 0, none⟩ = some (.map (some r)) ∧ W.ownsMap Tryd.prog 5 (plainElem Tryd.prog 3) r 3 sigD
theorem SGr.lt {r : Nat} {W : World} (h : SGr r W) : r < W.heap.size := h.2.lt
theorem SGr.keepR {r p : Nat} {w W : World} (h : SGr r w) (hk : KeepR p w W) (h1 : 1 ≠ p) (h2 : r ≠ p) : SGr r W := by
  refine ⟨hk.cell h.1 h1, ?_⟩
  obtain ⟨es, clock, hb, F, hs, hD⟩ := h.2
  exact ⟨es, clock, (hk.block r h.lt h2).trans hb, F, hs, hD⟩
theorem sig_at (b : Nat) (hb : b < 256) : sigD.atKey (.int .u8 b) (.lit (.int .i64 0)) = .lit (.int .i64 (sgn b : Int)) := by
  unfold sgn
  by_cases h1 : b = 42
  · subst h1; kernel_rfl
  by_cases h2 : b = 43
  · subst h2; kernel_rfl
  by_cases h3 : b = 63
  · subst h3; kernel_rfl
  rw [if_neg h1, if_neg h2, if_neg h3]
  have e1 : decide ((42 : Int) = (b : Int)) = false := decide_eq_false (by omega)
  have e2 : decide ((43 : Int) = (b : Int)) = false := decide_eq_false (by omega)
  have e3 : decide ((63 : Int) = (b : Int)) = false := decide_eq_false (by omega)
  unfold sigD Rows.laid_limner_regs_signs DataW.atKey
  simp [List.find?, Lit.sameKey, e1, e2, e3]
set_option maxRecDepth 100000 in
theorem SGr.look {r : Nat} {W : World} (h : SGr r W) (b : Nat) (hb : b < 256) : (Instr.lookup 99 (.map (some r)) (.int .u8 (b : Int)) false).run Tryd.prog W = .ok (.int .i64 (sgn b : Int)) W := by
  have hk : keyOf Tryd.prog 5 (.int .u8 (b : Int)) = some (.int .u8 (b : Int)) := by
    have h1 : IntKind.u8.min = 0 := by decide
    have h2 : IntKind.u8.max = 255 := by decide
    exact Go.Maps.keyOf_int_mk Tryd.underlying5 (by simp only [Lit.wf, h1, h2, Bool.and_eq_true, decide_eq_true_eq]; omega)
  obtain ⟨c, hrun, hat, -⟩ := h.2.lookup_int law8 Tryd.underlying99 Tryd.underlying3 (zeroInt W) hk
  rw [sig_at b hb] at hat
  injection hat with hat; injection hat with _ hat; subst hat
  exact hrun
/-- One operation of a region that draws its order is taken first. -/
theorem wpAnyH_at {P : Program} {md : Region.Mode} {ops : Array Oper} {Q : Exit → Act → World → Prop} {S : World → Prop} {i : Nat} {oi : Oper} {v : Value} {d : Tmp} {fuel : Nat} {listed : Array Bool} {a : Act} {w : World} (hi : ops[i]? = some oi) (hd : oi.dst = some d)
    (hs : Region.noSelect ops = true) (hf : Region.free md ops listed i = true) (hr : (Region.ready md ops listed).contains i = true)
    (hQ : ∀ c a w, Q (.panic c) (a.put (some d) v) w → Q (.panic c) a w) (hy : YieldsIf P ops S oi v a) (hS : S w)
    (h : wpAnyH P md ops Q S fuel (listed.setIfInBounds i true) (a.put (some d) v) w) : wpAnyH P md ops Q S (fuel + 1) listed a w :=
  wpAnyH_take hi hs hf hr (by rw [hd]; exact hQ) hy hS (by rw [hd]; exact h)
mutual
/-- A node's cells; what lies below it lies in such blocks. -/
def NdX (P : Nat → Prop) (W : World) : Nd → List Value → Prop
  | .mk k S kids, cs => ∃ A cap, cs = ndL k S (.slice A kids.length cap) ∧ W64 S ∧ kids.length ≤ cap ∧ cap ≤ maxLen ∧ NdsX P W kids A 0
def NdsX (P : Nat → Prop) (W : World) : List Nd → Option Addr → Nat → Prop
  | [], _, _ => True
  | x :: l, A, j => (∃ b o cs, A = some ⟨b, o, none⟩ ∧ (P b ∧ b < W.heap.size) ∧ cs.length = 6 ∧ (∀ i u, cs[i]? = some u → W.cell? ⟨b, o + j * 6 + i, none⟩ = some u) ∧ NdX P W x cs) ∧ NdsX P W l A (j + 1)
end
mutual
theorem NdX.keep {P Q : Nat → Prop} {w W : World} (hq : ∀ b, P b → b < w.heap.size → Q b) (hs : w.heap.size ≤ W.heap.size) (hk : ∀ b o u, P b → w.cell? ⟨b, o, none⟩ = some u → W.cell? ⟨b, o, none⟩ = some u) : ∀ (x : Nd) (cs : List Value), NdX P w x cs → NdX Q W x cs
  | .mk k S kids, cs, h => by
    unfold NdX at h ⊢
    obtain ⟨A, cap, h1, h2, h3, h4, h5⟩ := h
    exact ⟨A, cap, h1, h2, h3, h4, NdsX.keep hq hs hk kids A 0 h5⟩
theorem NdsX.keep {P Q : Nat → Prop} {w W : World} (hq : ∀ b, P b → b < w.heap.size → Q b) (hs : w.heap.size ≤ W.heap.size) (hk : ∀ b o u, P b → w.cell? ⟨b, o, none⟩ = some u → W.cell? ⟨b, o, none⟩ = some u) : ∀ (l : List Nd) (A : Option Addr) (j : Nat), NdsX P w l A j → NdsX Q W l A j
  | [], _, _, _ => by unfold NdsX; trivial
  | x :: l, A, j, h => by
    unfold NdsX at h ⊢
    obtain ⟨⟨b, o, cs, e, hb, hl, hc, hx⟩, h2⟩ := h
    exact ⟨⟨b, o, cs, e, ⟨hq b hb.1 hb.2, Nat.lt_of_lt_of_le hb.2 hs⟩, hl, fun i u hu => hk _ _ _ hb.1 (hc i u hu), NdX.keep hq hs hk x cs hx⟩, NdsX.keep hq hs hk l A (j + 1) h2⟩
end
mutual
theorem NdX.of {B : Nat} {W : World} : ∀ (x : Nd) (cs : List Value), NdAt B W x cs → NdX (fun b => B ≤ b) W x cs
  | .mk k S kids, cs, h => by
    unfold NdAt at h; unfold NdX
    obtain ⟨A, cap, h1, h2, h3, h4, h5⟩ := h
    exact ⟨A, cap, h1, h2, h3, h4, NdsX.of kids A 0 h5⟩
theorem NdsX.of {B : Nat} {W : World} : ∀ (l : List Nd) (A : Option Addr) (j : Nat), NdsAt B W l A j → NdsX (fun b => B ≤ b) W l A j
  | [], _, _, _ => by unfold NdsX; trivial
  | x :: l, A, j, h => by
    unfold NdsAt at h; unfold NdsX
    obtain ⟨⟨b, o, cs, e, hb, hl, hc, hx⟩, h2⟩ := h
    exact ⟨⟨b, o, cs, e, hb, hl, hc, NdX.of x cs hx⟩, NdsX.of l A (j + 1) h2⟩
end
mutual
theorem NdX.at {P : Nat → Prop} {B : Nat} {W : World} (hq : ∀ b, P b → B ≤ b) : ∀ (x : Nd) (cs : List Value), NdX P W x cs → NdAt B W x cs
  | .mk k S kids, cs, h => by
    unfold NdX at h; unfold NdAt
    obtain ⟨A, cap, h1, h2, h3, h4, h5⟩ := h
    exact ⟨A, cap, h1, h2, h3, h4, NdsX.at hq kids A 0 h5⟩
theorem NdsX.at {P : Nat → Prop} {B : Nat} {W : World} (hq : ∀ b, P b → B ≤ b) : ∀ (l : List Nd) (A : Option Addr) (j : Nat), NdsX P W l A j → NdsAt B W l A j
  | [], _, _, _ => by unfold NdsAt; trivial
  | x :: l, A, j, h => by
    unfold NdsX at h; unfold NdsAt
    obtain ⟨⟨b, o, cs, e, hb, hl, hc, hx⟩, h2⟩ := h
    exact ⟨⟨b, o, cs, e, ⟨hq b hb.1, hb.2⟩, hl, hc, NdX.at hq x cs hx⟩, NdsX.at hq l A (j + 1) h2⟩
end
theorem NdX.form {P : Nat → Prop} {W : World} {x : Nd} {cs : List Value} (h : NdX P W x cs) : ∃ (k : Int) (x0 x1 x2 x3 : Nat) (A : Option Addr) (m cap : Nat), cs = ndL k [x0, x1, x2, x3] (.slice A m cap) ∧ m ≤ cap ∧ cap ≤ maxLen := by
  cases x with
  | mk k S kids =>
    unfold NdX at h
    obtain ⟨A, cap, rfl, hw, h3, h4, -⟩ := h
    obtain ⟨a, b, c, d, rfl⟩ := four hw.1
    exact ⟨k, a, b, c, d, A, kids.length, cap, rfl, h3, h4⟩
theorem NdX.len {P : Nat → Prop} {W : World} {x : Nd} {cs : List Value} (h : NdX P W x cs) : cs.length = 6 := by
  obtain ⟨k, a, b, c, d, A, m, cap, rfl, -⟩ := h.form; rfl
theorem NdX.one {P : Nat → Prop} {W : World} {x : Nd} {cs : List Value} (h : NdX P W x cs) : ∀ u ∈ cs, u.oneCell' = true := by
  obtain ⟨k, a, b, c, d, A, m, cap, rfl, -⟩ := h.form
  intro u hu
  simp [ndL] at hu
  rcases hu with rfl | rfl | rfl | rfl | rfl | rfl <;> rfl
theorem NdsX.get {P : Nat → Prop} {W : World} : ∀ {l : List Nd} {A : Option Addr} {j : Nat}, NdsX P W l A j → ∀ i x, l[i]? = some x → ∃ b o cs, A = some ⟨b, o, none⟩ ∧ (P b ∧ b < W.heap.size) ∧ cs.length = 6 ∧ (∀ q u, cs[q]? = some u → W.cell? ⟨b, o + (j + i) * 6 + q, none⟩ = some u) ∧ NdX P W x cs
  | [], _, _, _, i, x, hx => by simp at hx
  | y :: l, A, j, h, 0, x, hx => by
    unfold NdsX at h
    simp at hx; subst hx
    exact h.1
  | y :: l, A, j, h, i + 1, x, hx => by
    unfold NdsX at h
    obtain ⟨b, o, cs, h1, h2, h3, h4, h5⟩ := NdsX.get h.2 i x (by simpa using hx)
    exact ⟨b, o, cs, h1, h2, h3, by rw [show j + (i + 1) = j + 1 + i by omega]; exact h4, h5⟩
theorem NdsX.mk {P : Nat → Prop} {W : World} {b o : Nat} (hb : P b ∧ b < W.heap.size) : ∀ (l : List Nd) (j : Nat), (∀ i x, l[i]? = some x → ∃ cs, cs.length = 6 ∧ (∀ q u, cs[q]? = some u → W.cell? ⟨b, o + (j + i) * 6 + q, none⟩ = some u) ∧ NdX P W x cs) → NdsX P W l (some ⟨b, o, none⟩) j
  | [], _, _ => by unfold NdsX; trivial
  | x :: l, j, h => by
    unfold NdsX
    refine ⟨?_, NdsX.mk hb l (j + 1) (fun i y hy => ?_)⟩
    · obtain ⟨cs, h1, h2, h3⟩ := h 0 x rfl
      exact ⟨b, o, cs, rfl, hb, h1, h2, h3⟩
    · obtain ⟨cs, h1, h2, h3⟩ := h (i + 1) y (by simpa using hy)
      exact ⟨cs, h1, by rw [show j + 1 + i = j + (i + 1) by omega]; exact h2, h3⟩

/-- A row of nodes of one's own: their cells lie side by side; what lies below them lies elsewhere. -/
def RowN (W : World) (B : Nat) (v : Value) (L : List Nd) : Prop :=
  ∃ Cs : List (List Value), Cs.length = L.length ∧ (∀ cs ∈ Cs, cs.length = 6) ∧ W.ownsRow B 27 6 v L.length Cs.flatten ∧ ∀ (j : Nat) (x : Nd), L[j]? = some x → ∃ cs, Cs[j]? = some cs ∧ NdX (fun b => B ≤ b ∧ some b ≠ v.ownBlock) W x cs
theorem infoN : (Tryd.prog.info? 27).map (fun i => (i.zero, i.size, i.bytes)) = some (some (.agg #[.int .i64 0, .int .u64 0, .int .u64 0, .int .u64 0, .int .u64 0, .slice none 0 0]), 6, 64) := by kernel_rfl
theorem infoN_parts : ∃ i, Tryd.prog.info? 27 = some i ∧ i.zero = some (.agg #[.int .i64 0, .int .u64 0, .int .u64 0, .int .u64 0, .int .u64 0, .slice none 0 0]) ∧ i.size = 6 ∧ i.bytes = 64 := by
  have h := infoN
  cases hi : Tryd.prog.info? 27 with
  | none => rw [hi] at h; cases h
  | some i =>
    rw [hi] at h
    simp only [Option.map_some, Option.some.injEq, Prod.mk.injEq] at h
    exact ⟨i, rfl, h⟩
theorem RowN.nil (W : World) (B : Nat) : RowN W B (.slice none 0 0) [] := ⟨[], rfl, by simp, World.ownsRow_nil W B _ 6, by simp⟩
theorem RowN.keep {W V : World} {B : Nat} {v : Value} {L : List Nd} (h : RowN W B v L) (hs : W.heap.size ≤ V.heap.size) (hk : ∀ b, B ≤ b → b < W.heap.size → V.heap[b]? = W.heap[b]?) : RowN V B v L := by
  obtain ⟨Cs, h1, h2, h3, h4⟩ := h
  refine ⟨Cs, h1, h2, ?_, fun j x hx => ?_⟩
  · refine ⟨h3.1, ?_⟩
    rcases h3.2 with h | ⟨g, cap, cur, e1, e2, e3, e4⟩
    · exact .inl h
    · exact .inr ⟨g, cap, cur, e1, e2, (hk g e2 (Array.getElem?_eq_some_iff.1 e3).1).trans e3, e4⟩
  · obtain ⟨cs, e1, e2⟩ := h4 j x hx
    exact ⟨cs, e1, NdX.keep (fun _ h _ => h) hs (fun b o u hb hc => (World.cell?_of_block (hk b hb.1 (World.block_lt_of_cell? _ _ hc))).trans hc) x cs e2⟩
theorem flat_at {Cs : List (List Value)} (h6 : ∀ cs ∈ Cs, cs.length = 6) : ∀ (j q : Nat) (cs : List Value) (u : Value), Cs[j]? = some cs → cs[q]? = some u → Cs.flatten[j * 6 + q]? = some u := by
  induction Cs with
  | nil => intro j q cs u h; simp at h
  | cons c Cs ih =>
    intro j q cs u h hu
    have hc := h6 c (by simp)
    cases j with
    | zero =>
      simp at h; subst h
      rw [List.flatten_cons, Nat.zero_mul, Nat.zero_add, List.getElem?_append_left (List.getElem?_eq_some_iff.1 hu).1]; exact hu
    | succ j =>
      rw [List.flatten_cons, List.getElem?_append_right (by omega), show (j + 1) * 6 + q - c.length = j * 6 + q by omega]
      exact ih (fun cs hcs => h6 cs (by simp [hcs])) j q cs u (by simpa using h) hu
/-- What a row's nodes are, as a node's kids. -/
theorem RowN.kids {W : World} {B : Nat} {v : Value} {L : List Nd} (h : RowN W B v L) : ∃ A cap, v = .slice A L.length cap ∧ L.length ≤ cap ∧ cap ≤ maxLen ∧ NdsX (fun b => B ≤ b) W L A 0 := by
  obtain ⟨Cs, h1, h2, h3, h4⟩ := h
  rcases h3.2 with ⟨rfl, hn⟩ | ⟨g, cap, cur, rfl, e2, e3, e4, e5, e6, e7⟩
  · have : L = [] := List.eq_nil_of_length_eq_zero hn
    subst this
    exact ⟨none, 0, rfl, Nat.le_refl _, by unfold maxLen; omega, by unfold NdsX; trivial⟩
  · refine ⟨some ⟨g, 0, none⟩, cap, rfl, e4, e5, NdsX.mk ⟨e2, (Array.getElem?_eq_some_iff.1 e3).1⟩ L 0 (fun i x hx => ?_)⟩
    obtain ⟨cs, k1, k2⟩ := h4 i x hx
    refine ⟨cs, k2.len, fun q u hu => ?_, NdX.keep (fun _ h _ => h.1) (Nat.le_refl _) (fun _ _ _ _ h => h) x cs k2⟩
    have hf := flat_at h2 i q cs u k1 hu
    have := h3.cells (g := g) rfl (i * 6 + q) u hf
    rw [← this]
    congr 1
    unfold Addr.add
    split <;> simp_all
theorem RowN.one {W : World} {B b : Nat} {x : Nd} {cs : List Value} (hb : Blk W b 27 cs) (hB : B ≤ b) (hx : NdX (fun c => B ≤ c ∧ c ≠ b) W x cs) : RowN W B (.slice (some ⟨b, 0, none⟩) 1 1) [x] := by
  refine ⟨[cs], rfl, fun c hc => by simp at hc; rw [hc]; exact hx.len, ⟨by simp [hx.len], .inr ⟨b, 1, cs.toArray, rfl, hB, hb, Nat.le_refl _, by unfold maxLen; omega, by simp [hx.len], by rw [List.take_of_length_le (by simp [hx.len])]; simp⟩⟩, fun j y hy => ?_⟩
  match j, hy with
  | 0, hy =>
    simp at hy; subst hy
    exact ⟨cs, rfl, NdX.keep (fun c h _ => ⟨h.1, fun e => h.2 (by simpa [Value.ownBlock] using e)⟩) (Nat.le_refl _) (fun _ _ _ _ h => h) _ _ hx⟩
  | j + 1, hy => simp at hy
/-- Append of a node. -/
theorem RowN.app {W V : World} {B : Nat} {v v' : Value} {L : List Nd} {x : Nd} {cs : List Value} {Cs : List (List Value)} (h1 : Cs.length = L.length) (h2 : ∀ cs ∈ Cs, cs.length = 6) (h4 : ∀ (j : Nat) (x : Nd), L[j]? = some x → ∃ cs, Cs[j]? = some cs ∧ NdX (fun b => B ≤ b ∧ some b ≠ v.ownBlock) W x cs)
    (hx : NdX (fun b => B ≤ b ∧ some b ≠ v.ownBlock) W x cs) (hown : V.ownsRow B 27 6 v' (L.length + 1) (Cs.flatten ++ cs)) (hg : W.grownBy V v.ownBlock) (hat : v'.ownBlock = v.ownBlock ∨ v'.ownBlock = some W.heap.size) : RowN V B v' (L ++ [x]) := by
  have hmv : ∀ (y : Nd) (c : List Value), NdX (fun b => B ≤ b ∧ some b ≠ v.ownBlock) W y c → NdX (fun b => B ≤ b ∧ some b ≠ v'.ownBlock) V y c := fun y c hy =>
    NdX.keep (fun b hb hlt => ⟨hb.1, by
      rcases hat with h | h
      · rw [h]; exact hb.2
      · rw [h]; intro e; injection e with e; omega⟩) hg.size (fun b o u hb hc => hg.cell hc hb.2) y c hy
  refine ⟨Cs ++ [cs], by simp [h1], fun c hc => ?_, by simpa using hown, fun j y hy => ?_⟩
  · rcases List.mem_append.1 hc with h | h
    · exact h2 c h
    · simp at h; rw [h]; exact hx.len
  · by_cases hj : j < L.length
    · rw [List.getElem?_append_left hj] at hy
      obtain ⟨c, e1, e2⟩ := h4 j y hy
      exact ⟨c, by rw [List.getElem?_append_left (by omega)]; exact e1, hmv _ _ e2⟩
    · rw [List.getElem?_append_right (by omega)] at hy
      have : j = L.length := by
        have := (List.getElem?_eq_some_iff.1 hy).1
        simp at this; omega
      subst this
      simp at hy; subst hy
      exact ⟨cs, by rw [List.getElem?_append_right (by omega), h1]; simp, hmv _ _ hx⟩
end Go.Proofs.YtfamoikmfbpigaaDoor
namespace Go.Proofs.YtfamoikmfbpigaaDoor
open Go.RowKit Go.Lib Go.Maps Go.WideElems

theorem sigName : Tryd.prog.globalNamed "limner/regs.signs" = some 1 := by kernel_rfl
theorem sigType : (Tryd.prog.globals[1]?).map (·.type) = some 99 := by kernel_rfl
theorem sgr_of_laid {W : World} {l : List (String × DataW Unit)} (h : laidMet Tryd.prog l W) (hm : ("limner/regs.signs", Rows.laid_limner_regs_signs) ∈ l) : ∃ r, SGr r W := by
  have hr := laidMet.reads h (n := "limner/regs.signs") (d := Rows.laid_limner_regs_signs) hm
  obtain ⟨g', t', cs, fuel, p, hg, hty, hvar, hd⟩ := hr
  obtain rfl := Option.some.inj (sigName.symm.trans hg)
  obtain rfl := Option.some.inj (sigType.symm.trans hty)
  rcases WideElems.open_map Tryd.underlying99 hd with ⟨_, hx⟩ | ⟨bm, es, clock, m, -, hcs, hb, _, F, hx⟩
  · have := congrArg Prod.fst hx
    simp [Rows.laid_limner_regs_signs] at this
  · have hx1 := congrArg Prod.fst hx
    dsimp only at hx1
    have hlen := congrArg (fun d : DataW Unit => match d with | .map l => l.length | _ => 0) hx1
    dsimp only at hlen
    rw [length_read] at hlen
    have h3 : es.size = 3 := hlen.symm
    have hown := World.ownsMap_of_fit (R := plainElem Tryd.prog 3) hb F (fun x _ z hz => elemAt_plainElem_int Tryd.underlying3 hz)
    rw [h3, ← hx1] at hown
    refine ⟨bm, ?_, hown⟩
    have := World.var?_cell hg hvar 0
    rw [Array.eq_one_of_toList hcs] at this
    simpa using this
end Go.Proofs.YtfamoikmfbpigaaDoor
namespace Go.Proofs.YtfamoikmfbpigaaDoor
open Go.RowKit

/-- Is a byte in a set? -/
def hasS (S : List Nat) (b : Nat) : Bool := (S[b / 64]?.getD 0).testBit (b % 64)
def u4 (S : List Nat) : List Value := S.map fun (x : Nat) => Value.int .u64 (x : Int)
theorem u4_at {S : List Nat} {q x : Nat} (h : S[q]? = some x) : (u4 S)[q]? = some (.int .u64 (x : Int)) := by simp [u4, h]
theorem tb_dec (x r : Nat) : x.testBit r = decide (x / 2 ^ r % 2 = 1) := Nat.testBit_eq_decide_div_mod_eq
theorem has_and (x r : Nat) (hx : x < 18446744073709551616) : (bits .and .u64 ((x : Int) / 2 ^ r) 1 == 1) = x.testBit r := by
  have e : ((x : Int) / 2 ^ r) = ((x / 2 ^ r : Nat) : Int) := by push_cast; rfl
  rw [e, show (1 : Int) = ((1 : Nat) : Int) from rfl, bits_and_u64_nat _ _ (Nat.lt_of_le_of_lt (Nat.div_le_self _ _) hx) (by omega), Nat.and_one_is_mod, tb_dec]
  have h2 : x / 2 ^ r % 2 < 2 := Nat.mod_lt _ (by omega)
  generalize x / 2 ^ r % 2 = y at h2
  match y, h2 with
  | 0, _ => rfl
  | 1, _ => rfl
theorem has_mod (x r : Nat) : (((x : Int) / 2 ^ r).tmod 2 == 1) = x.testBit r := by
  have e : ((x : Int) / 2 ^ r) = ((x / 2 ^ r : Nat) : Int) := by push_cast; rfl
  rw [e, tb_dec, show ((x / 2 ^ r : Nat) : Int).tmod 2 = ((x / 2 ^ r % 2 : Nat) : Int) from rfl]
  have h2 : x / 2 ^ r % 2 < 2 := Nat.mod_lt _ (by omega)
  generalize x / 2 ^ r % 2 = y at h2
  match y, h2 with
  | 0, _ => rfl
  | 1, _ => rfl
theorem ret_has {a b : Bool} (h : a = b) : Ending.returned (.bool a) = .returned (.bool b) := by rw [h]
set_option maxRecDepth 100000 in
theorem has_any (x0 x1 x2 x3 b : Nat) (w : World) (hS : W64 [x0, x1, x2, x3]) (hb : b < 256) :
    Calls Tryd.prog 14 #[.agg #[.int .u64 (x0 : Int), .int .u64 (x1 : Int), .int .u64 (x2 : Int), .int .u64 (x3 : Int)], .int .u8 (b : Int)] w fun e w' => e = .returned (.bool (hasS [x0, x1, x2, x3] b)) ∧ Below w.heap.size w w' := by
  obtain ⟨q, hq⟩ : ∃ q, b / 64 = q := ⟨_, rfl⟩
  obtain ⟨r, hr⟩ : ∃ r, b % 64 = r := ⟨_, rfl⟩
  have hq4 : q < 4 := by omega
  have hr64 : r < 64 := by omega
  have hqi : (b : Int) / 64 = (q : Int) := by omega
  have hri : (b : Int) % 64 = (r : Int) := by omega
  have HH := hide (show hasS [x0, x1, x2, x3] b = ([x0, x1, x2, x3][q]?.getD 0).testBit r by unfold hasS; rw [hq, hr])
  have hb1 : Below w.heap.size w (w.alloc (.cells (u4 [x0, x1, x2, x3]).toArray 24)) := (Below.refl _ _).alloc (Nat.le_refl _) _
  have hq0 : (0 : Int) ≤ (q : Int) := by omega
  have hq1 : (q : Int) < 4 := by omega
  have hr0 : (0 : Int) ≤ (r : Int) := by omega
  have hr1 : (r : Int) < 64 := by omega
  have HB := hide hb1
  have HS := hide hS
  have hq' : q = 0 ∨ q = 1 ∨ q = 2 ∨ q = 3 := by omega
  clear hS hb1
  rcases hq' with rfl | rfl | rfl | rfl
  all_goals (
    go_enter Tryd.func14, Tryd.ntmps14
    go_wp2
    go_ret
    exact ⟨ret_has (by rw [HH.out]; exact has_and _ r (HS.out.2 _ (by simp))), HB.out⟩)
set_option maxRecDepth 100000 in
theorem rhas_any (x0 x1 x2 x3 b : Nat) (w : World) (hS : W64 [x0, x1, x2, x3]) (hb : b < 256) :
    Calls Tryd.prog 19 #[.agg #[.int .u64 (x0 : Int), .int .u64 (x1 : Int), .int .u64 (x2 : Int), .int .u64 (x3 : Int)], .int .u8 (b : Int)] w fun e w' => e = .returned (.bool (hasS [x0, x1, x2, x3] b)) ∧ Below w.heap.size w w' := by
  obtain ⟨q, hq⟩ : ∃ q, b / 64 = q := ⟨_, rfl⟩
  obtain ⟨r, hr⟩ : ∃ r, b % 64 = r := ⟨_, rfl⟩
  have hq4 : q < 4 := by omega
  have hr64 : r < 64 := by omega
  have hqi : (b : Int) / 64 = (q : Int) := by omega
  have hri : (b : Int) % 64 = (r : Int) := by omega
  have HH := hide (show hasS [x0, x1, x2, x3] b = ([x0, x1, x2, x3][q]?.getD 0).testBit r by unfold hasS; rw [hq, hr])
  have hb1 : Below w.heap.size w (w.alloc (.cells (u4 [x0, x1, x2, x3]).toArray 24)) := (Below.refl _ _).alloc (Nat.le_refl _) _
  have hq0 : (0 : Int) ≤ (q : Int) := by omega
  have hq1 : (q : Int) < 4 := by omega
  have hr0 : (0 : Int) ≤ (r : Int) := by omega
  have hr1 : (r : Int) < 64 := by omega
  have HB := hide hb1
  have HS := hide hS
  have hq' : q = 0 ∨ q = 1 ∨ q = 2 ∨ q = 3 := by omega
  clear hS hb1
  rcases hq' with rfl | rfl | rfl | rfl
  all_goals (
    go_enter Tryd.func19, Tryd.ntmps19
    go_wp2
    go_ret
    exact ⟨ret_has (by rw [HH.out]; exact has_mod _ r), HB.out⟩)
end Go.Proofs.YtfamoikmfbpigaaDoor
namespace Go.Proofs.YtfamoikmfbpigaaDoor
open Go.RowKit

def eq4 (x0 x1 x2 x3 y0 y1 y2 y3 : Int) : Bool := x0 == y0 && x1 == y1 && x2 == y2 && x3 == y3
theorem eqU4N (n : Nat) (x0 x1 x2 x3 y0 y1 y2 y3 : Int) (w : World) : (Op.equalIn (n + 2) 24 (.agg #[.int .u64 x0, .int .u64 x1, .int .u64 x2, .int .u64 x3]) (.agg #[.int .u64 y0, .int .u64 y1, .int .u64 y2, .int .u64 y3])).run Tryd.prog w = .ok (eq4 x0 x1 x2 x3 y0 y1 y2 y3) w := by
  have u3 := Tryd.underlying23
  have a3 := Tryd.isAgg23
  have z3 := Tryd.sizeOf23
  have hi := fun a b => run_equalIn_int (P := Tryd.prog) w n 23 .u64 .u64 a b u3
  unfold Op.equalIn
  simp only [Sem.run_bind, run_underlying Tryd.underlying24, Result.andThen_ok]
  simp [z3, Std.Legacy.Range.forIn_eq_forIn_range', List.range'_succ, go_sem, a3, hi]
  unfold eq4
  by_cases h0 : x0 = y0 <;> by_cases h1 : x1 = y1 <;> by_cases h2 : x2 = y2 <;> by_cases h3 : x3 = y3 <;> simp [h0, h1, h2, h3]
@[go_sem high] theorem neqU4 (x0 x1 x2 x3 y0 y1 y2 y3 : Int) (w : World) : (binOp .neq 24 (.agg #[.int .u64 x0, .int .u64 x1, .int .u64 x2, .int .u64 x3]) (.agg #[.int .u64 y0, .int .u64 y1, .int .u64 y2, .int .u64 y3])).run Tryd.prog w = .ok (.bool (!eq4 x0 x1 x2 x3 y0 y1 y2 y3)) w := by
  have h := eqU4N 9998 x0 x1 x2 x3 y0 y1 y2 y3 w
  rw [run_neq_struct, h]
  rfl
theorem eq4_same (x0 x1 x2 x3 : Int) : eq4 x0 x1 x2 x3 x0 x1 x2 x3 = true := by simp [eq4]
theorem eq4_ne {x0 x1 x2 x3 y0 y1 y2 y3 : Nat} (h : [x0, x1, x2, x3] ≠ [y0, y1, y2, y3]) : eq4 x0 x1 x2 x3 y0 y1 y2 y3 = false := by
  cases hh : eq4 x0 x1 x2 x3 y0 y1 y2 y3 with
  | false => rfl
  | true =>
    exfalso
    apply h
    simp [eq4] at hh
    simp; omega
end Go.Proofs.YtfamoikmfbpigaaDoor
namespace Go.Proofs.YtfamoikmfbpigaaDoor
open Go.RowKit

def joinedE (k : Int) : List Nd → Nd
  | [] => .mk 0 noSet []
  | [x] => x
  | x :: y :: l => .mk k noSet (x :: y :: l)
def signsE : Nat → Nd → ByteArray → Nd × ByteArray
  | 0, n, s => (n, s)
  | f + 1, n, s => if 0 < sgn (nextB s) then signsE f (.mk (sgn (nextB s)) noSet [n]) (s.extract 1 s.size) else (n, s)
def pieceE (R : ByteArray → Option (Nd × ByteArray)) (s : ByteArray) : Option (Nd × ByteArray) :=
  match atomE R s with
  | none => none
  | some (n, t) => some (signsE t.size n t)
theorem nextB_lt (s : ByteArray) : nextB s < 256 := by
  unfold nextB
  split
  · exact UInt8.toNat_lt_size _
  · omega
theorem tk_next {s : ByteArray} (h : 0 < s.size) : tk s = some (nextB s, s.extract 1 s.size) := by
  unfold tk nextB; rw [dif_pos h, dif_pos h]
theorem sgn_pos {s : ByteArray} (h : 0 < sgn (nextB s)) : 0 < s.size := by
  by_cases h0 : 0 < s.size
  · exact h0
  · exfalso
    have : nextB s = 0 := by unfold nextB; rw [dif_neg h0]
    rw [this] at h; exact absurd h (by decide)
theorem signsE_more (n : Nd) (s : ByteArray) (f : Nat) (h : s.size ≤ f) (hs : 0 < sgn (nextB s)) : signsE f n s = signsE (f - 1) (.mk (sgn (nextB s)) noSet [n]) (s.extract 1 s.size) := by
  have := sgn_pos hs
  obtain ⟨g, rfl⟩ : ∃ g, f = g + 1 := ⟨f - 1, by omega⟩
  rw [signsE, if_pos hs]; rfl
theorem signsE_end (n : Nd) (s : ByteArray) (f : Nat) (hs : ¬ 0 < sgn (nextB s)) : signsE f n s = (n, s) := by
  cases f with
  | zero => rfl
  | succ f => rw [signsE, if_neg hs]
theorem NdX.keepR {P : Nat → Prop} {z : Nat} {w W : World} {x : Nd} {cs : List Value} (h : NdX P w x cs) (hP : ∀ b, P b → b ≠ z) (hk : KeepR z w W) : NdX P W x cs :=
  NdX.keep (fun _ h _ => h) hk.size (fun _ _ _ hb hc => hk.cell hc (hP _ hb)) x cs h
theorem NdsX.keepR {P : Nat → Prop} {z : Nat} {w W : World} {L : List Nd} {A : Option Addr} {j : Nat} (h : NdsX P w L A j) (hP : ∀ b, P b → b ≠ z) (hk : KeepR z w W) : NdsX P W L A j :=
  NdsX.keep (fun _ h _ => h) hk.size (fun _ _ _ hb hc => hk.cell hc (hP _ hb)) L A j h
theorem NdX.mkat {P : Nat → Prop} {B : Nat} {W : World} (hq : ∀ b, P b → B ≤ b) (k : Int) (L : List Nd) (A : Option Addr) (m cap : Nat) (hl : L.length = m) (h3 : m ≤ cap) (h4 : cap ≤ maxLen) (h : NdsX P W L A 0) : NdAt B W (.mk k noSet L) (ndL k noSet (.slice A m cap)) := by
  unfold NdAt
  exact ⟨A, cap, by rw [hl], noSet_w, by omega, h4, NdsX.at hq _ _ _ h⟩
theorem BelowKeep {z : Nat} {w X Y : World} (h : Below w.heap.size w X) (hk : KeepR z X Y) (hz : w.heap.size ≤ z) : Below w.heap.size w Y :=
  ⟨hk.os.trans h.os, hk.tape.trans h.tape, hk.output.trans h.output, Nat.le_trans h.size hk.size, fun b hb => (hk.block b (Nat.lt_of_lt_of_le hb h.size) (by omega)).trans (h.block b hb)⟩
theorem NdX.low {P : Nat → Prop} {w W : World} {x : Nd} {cs : List Value} (h : NdX P w x cs) (hk : Below w.heap.size w W) : NdX P W x cs :=
  NdX.keep (fun _ h _ => h) hk.size (fun b o _ _ hc => (hk.cell (p := ⟨b, o, none⟩) (World.block_lt_of_cell? _ _ hc)).trans hc) x cs h
theorem NdsX.low {P : Nat → Prop} {w W : World} {L : List Nd} {A : Option Addr} {j : Nat} (h : NdsX P w L A j) (hk : Below w.heap.size w W) : NdsX P W L A j :=
  NdsX.keep (fun _ h _ => h) hk.size (fun b o _ _ hc => (hk.cell (p := ⟨b, o, none⟩) (World.block_lt_of_cell? _ _ hc)).trans hc) L A j h
set_option maxHeartbeats 1000000 in
set_option maxRecDepth 100000 in
theorem joined_any (B : Nat) (k : Int) (A : Option Addr) (m cap : Nat) (L : List Nd) (w : World) (hl : L.length = m) (hmc : m ≤ cap) (hcap : cap ≤ maxLen) (hm : m ≤ 1000000) (h : NdsX (fun b => B ≤ b) w L A 0) :
    Calls Tryd.prog 39 #[.int .i64 k, .slice A m cap] w fun e w' => ∃ cs, e = .returned (.agg cs.toArray) ∧ NdAt B w' (joinedE k L) cs ∧ Below w.heap.size w w' := by
  have HN := hide h
  clear h
  by_cases hm0 : m = 0
  · subst hm0
    have : L = [] := List.eq_nil_of_length_eq_zero hl
    subst this
    go_enter Tryd.func39, Tryd.ntmps39
    go_wp2
    refine bodyPost_ret (results_cell_row rfl _ _ w.heap.size 27 #[.int .i64 0, .int .u64 0, .int .u64 0, .int .u64 0, .int .u64 0, .slice none 0 0] (0, 0) _ rfl (Blk.new w 27 [.int .i64 0, .int .u64 0, .int .u64 0, .int .u64 0, .int .u64 0, .slice none 0 0]) Tryd.underlying27 rfl (by kernel_rfl)) rfl ?_
    have hk : Below w.heap.size w (w.alloc (.cells #[.int .i64 0, .int .u64 0, .int .u64 0, .int .u64 0, .int .u64 0, .slice none 0 0] 27)) := (Below.refl _ _).alloc (Nat.le_refl _) _
    exact ⟨ndL 0 noSet (.slice none 0 0), rfl, NdAt.leaf _ _ 0 noSet_w, hk⟩
  by_cases hm1 : m = 1
  · subst hm1
    obtain ⟨x, rfl⟩ : ∃ x, L = [x] := by
      match L, hl with
      | [x], _ => exact ⟨x, rfl⟩
    obtain ⟨b, o, cs, rfl, hb, -, hc, hx⟩ := HN.out.get 0 x rfl
    obtain ⟨k', x0, x1, x2, x3, A', m', cap', rfl, -, -⟩ := hx.form
    have a0 := hc 0 _ rfl
    have a1 := hc 1 _ rfl
    have a2 := hc 2 _ rfl
    have a3 := hc 3 _ rfl
    have a4 := hc 4 _ rfl
    have a5 := hc 5 _ rfl
    rw [show o + (0 + 0) * 6 + 0 = o by omega] at a0
    rw [show o + (0 + 0) * 6 + 1 = o + 1 by omega] at a1
    rw [show o + (0 + 0) * 6 + 2 = o + 2 by omega] at a2
    rw [show o + (0 + 0) * 6 + 3 = o + 3 by omega] at a3
    rw [show o + (0 + 0) * 6 + 4 = o + 4 by omega] at a4
    rw [show o + (0 + 0) * 6 + 5 = o + 5 by omega] at a5
    have HX := hide hx
    clear hc hx hl
    go_enter Tryd.func39, Tryd.ntmps39
    go_wp2
    refine bodyPost_ret (results_cell_row rfl _ _ w.heap.size 27 #[.int .i64 k', .int .u64 (x0 : Int), .int .u64 (x1 : Int), .int .u64 (x2 : Int), .int .u64 (x3 : Int), .slice A' m' cap'] (0, 0) _ rfl (Blk.new w 27 [.int .i64 k', .int .u64 (x0 : Int), .int .u64 (x1 : Int), .int .u64 (x2 : Int), .int .u64 (x3 : Int), .slice A' m' cap']) Tryd.underlying27 rfl (by kernel_rfl)) rfl ?_
    have hk : Below w.heap.size w (w.alloc (.cells #[.int .i64 k', .int .u64 (x0 : Int), .int .u64 (x1 : Int), .int .u64 (x2 : Int), .int .u64 (x3 : Int), .slice A' m' cap'] 27)) := (Below.refl _ _).alloc (Nat.le_refl _) _
    exact ⟨ndL k' [x0, x1, x2, x3] (.slice A' m' cap'), rfl, NdX.at (fun b h => h) _ _ (HX.out.low hk), hk⟩
  · have HJ := hide (show joinedE k L = .mk k noSet L by
      match L, hl with
      | [], hl => exact absurd hl.symm hm0
      | [x], hl => exact absurd hl.symm hm1
      | x :: y :: l, _ => rfl)
    have q0 : ((m : Int) == 0) = false := by simp; omega
    have q1 : ((m : Int) == 1) = false := by simp; omega
    go_enter Tryd.func39, Tryd.ntmps39
    go_wp2
    refine bodyPost_ret (results_cell_row rfl _ _ w.heap.size 27 #[.int .i64 k, .int .u64 0, .int .u64 0, .int .u64 0, .int .u64 0, .slice A m cap] (0, 0) _ rfl (Blk.new w 27 [.int .i64 k, .int .u64 0, .int .u64 0, .int .u64 0, .int .u64 0, .slice A m cap]) Tryd.underlying27 rfl (by kernel_rfl)) rfl ?_
    have hk : Below w.heap.size w (w.alloc (.cells #[.int .i64 k, .int .u64 0, .int .u64 0, .int .u64 0, .int .u64 0, .slice A m cap] 27)) := (Below.refl _ _).alloc (Nat.le_refl _) _
    rw [HJ.out]
    exact ⟨ndL k noSet (.slice A m cap), rfl, NdX.mkat (fun b h => h) k L A m cap hl hmc hcap (HN.out.low hk), hk⟩
theorem nd_putB {W : World} {z : Nat} {k0 : Int} {a0 b0 c0 d0 : Nat} {v0 : Value} (h : Blk W z 27 (ndL k0 [a0, b0, c0, d0] v0)) (k : Int) (v : Value) : Blk ((((((W.setCell ⟨z, 0, none⟩ (.int .i64 k)).setCell ⟨z, 1, none⟩ (.int .u64 0)).setCell ⟨z, 2, none⟩ (.int .u64 0)).setCell ⟨z, 3, none⟩ (.int .u64 0)).setCell ⟨z, 4, none⟩ (.int .u64 0)).setCell ⟨z, 5, none⟩ v) z 27 (ndL k noSet v) :=
  (((((h.set 0 _).set 1 _).set 2 _).set 3 _).set 4 _).set 5 _
theorem nd_keepB (W : World) (z : Nat) (k : Int) (v : Value) : KeepR z W ((((((W.setCell ⟨z, 0, none⟩ (.int .i64 k)).setCell ⟨z, 1, none⟩ (.int .u64 0)).setCell ⟨z, 2, none⟩ (.int .u64 0)).setCell ⟨z, 3, none⟩ (.int .u64 0)).setCell ⟨z, 4, none⟩ (.int .u64 0)).setCell ⟨z, 5, none⟩ v) :=
  (((((KeepR.setK z 0 W _).trans (KeepR.setK z 1 _ _)).trans (KeepR.setK z 2 _ _)).trans (KeepR.setK z 3 _ _)).trans (KeepR.setK z 4 _ _)).trans (KeepR.setK z 5 _ _)
/-- What piece's boxes hold. -/
structure PcS (r p z2 z3 : Nat) (w W : World) (n : Nd) (t : ByteArray) (cs : List Value) : Prop where
  rd : Rd W p t
  b2 : Blk W z2 27 (ndL 0 noSet (.slice none 0 0))
  b3 : Blk W z3 27 cs
  nd : NdX (fun b => w.heap.size ≤ b ∧ b ≠ z2 ∧ b ≠ z3) W n cs
  sg : SGr r W
  keep : KeepR p w W
theorem PcS.step {r p z2 z3 : Nat} {w W V : World} {n : Nd} {t t' : ByteArray} {cs : List Value} (h : PcS r p z2 z3 w W n t cs) (hr : Rd V p t') (hk : KeepR p W V) (hp : p < w.heap.size) (h2 : z2 ≠ p) (h3 : z3 ≠ p) (hg : 1 ≠ p) (hrp : r ≠ p) : PcS r p z2 z3 w V n t' cs :=
  ⟨hr, hk.blk h.b2 h2, hk.blk h.b3 h3, h.nd.keepR (fun b hb => by omega) hk, h.sg.keepR hk hg hrp, h.keep.trans hk⟩
theorem SGr.below {r : Nat} {w W : World} (h : SGr r w) (hb : Below w.heap.size w W) : SGr r W := by
  refine ⟨(hb.cell (World.block_lt_of_cell? _ _ h.1)).trans h.1, ?_⟩
  obtain ⟨es, clock, he, F, hs, hD⟩ := h.2
  exact ⟨es, clock, (hb.block r h.lt).trans he, F, hs, hD⟩
theorem PcS.low {r p z2 z3 : Nat} {w W V : World} {n : Nd} {t : ByteArray} {cs : List Value} (h : PcS r p z2 z3 w W n t cs) (hb : Below W.heap.size W V) : PcS r p z2 z3 w V n t cs :=
  ⟨h.rd.below hb, h.b2.below hb, h.b3.below hb, h.nd.low hb, h.sg.below hb, h.keep.trans (KeepR.of hb)⟩
/-- The node goes below a sign. -/
theorem PcS.wrap {r p z2 z3 zb : Nat} {w W : World} {n : Nd} {t : ByteArray} {k : Int} {x0 x1 x2 x3 : Nat} {v : Value} (h : PcS r p z2 z3 w W n t (ndL k [x0, x1, x2, x3] v)) (hb : Blk W zb 27 (ndL k [x0, x1, x2, x3] v)) (hz : w.heap.size ≤ zb) (h2 : zb ≠ z2) (h3 : zb ≠ z3) (h23 : z2 ≠ z3) (hp3 : p ≠ z3) (hz3 : w.heap.size ≤ z3) (hg : 1 ≠ z3) (hr : r ≠ z3) (j : Int) :
    PcS r p z2 z3 w ((((((W.setCell ⟨z3, 0, none⟩ (.int .i64 j)).setCell ⟨z3, 1, none⟩ (.int .u64 0)).setCell ⟨z3, 2, none⟩ (.int .u64 0)).setCell ⟨z3, 3, none⟩ (.int .u64 0)).setCell ⟨z3, 4, none⟩ (.int .u64 0)).setCell ⟨z3, 5, none⟩ (.slice (some ⟨zb, 0, none⟩) 1 1)) (.mk j noSet [n]) t (ndL j [0, 0, 0, 0] (.slice (some ⟨zb, 0, none⟩) 1 1)) := by
  have hk := nd_keepB W z3 j (.slice (some ⟨zb, 0, none⟩) 1 1)
  have hb' := hk.blk hb h3
  refine ⟨h.rd.keepZ hk hp3, hk.blk h.b2 h23, nd_putB h.b3 j _, ?_, h.sg.keepR hk hg hr, h.keep.own hk hz3⟩
  unfold NdX
  refine ⟨some ⟨zb, 0, none⟩, 1, rfl, noSet_w, Nat.le_refl _, by unfold maxLen; omega, NdsX.mk ⟨⟨hz, h2, h3⟩, hb'.lt⟩ _ 0 (fun i x hx => ?_)⟩
  match i, hx with
  | 0, hx =>
    simp at hx; subst hx
    refine ⟨_, h.nd.len, fun q u hu => ?_, h.nd.keepR (fun b hb => hb.2.2) hk⟩
    have := hb'.cell (i := q) hu
    rw [show 0 + (0 + 0) * 6 + q = q by omega]; exact this
  | i + 1, hx => simp at hx
/-- What a region's loads and look-ups read. -/
def SigAt (r b : Nat) (W : World) : Prop := W.cell? ⟨1, 0, none⟩ = some (.map (some r)) ∧ (Instr.lookup 99 (.map (some r)) (.int .u8 (b : Int)) false).run Tryd.prog W = .ok (.int .i64 (sgn b : Int)) W
theorem SGr.at {r : Nat} {W : World} (h : SGr r W) (b : Nat) (hb : b < 256) : W.cell? ⟨1, 0, none⟩ = some (.map (some r)) ∧ (Instr.lookup 99 (.map (some r)) (.int .u8 (b : Int)) false).run Tryd.prog W = .ok (.int .i64 (sgn b : Int)) W := ⟨h.1, h.look b hb⟩
set_option maxHeartbeats 4000000 in
set_option maxRecDepth 100000 in
theorem piece_any (r p : Nat) (s : ByteArray) (R : ByteArray → Option (Nd × ByteArray)) (w : World) (h : Rd w p s) (hm : s.size ≤ 100000) (hS : SGr r w) (hrp : r ≠ p) (hgp : 1 ≠ p)
    (hR : ∀ u W, u.size < s.size → Rd W p u → KeepR p w W → Calls Tryd.prog 27 #[.pointer (some ⟨p, 0, none⟩)] W (ResN p W (R u))) (hRb : ∀ u n v, R u = some (n, v) → v.size ≤ u.size) (hAb : ∀ n t, atomE R s = some (n, t) → t.size < s.size) :
    Calls Tryd.prog 50 #[.pointer (some ⟨p, 0, none⟩)] w (ResN p w (pieceE R s)) := by
  have HA := hide (fun W (hk : KeepR p w W) (h : Rd W p s) => atom_any p s R W h hm (fun u V hu hv hkv => hR u V hu hv (hk.trans hkv)) hRb)
  have HAB := hide hAb
  have hpw := h.lt
  have hgw : 1 < w.heap.size := World.block_lt_of_cell? _ _ hS.1
  have hrw := hS.lt
  have hb0 : Below w.heap.size w (w.alloc (.cells (ndL 0 noSet (.slice none 0 0)).toArray 27)) := (Below.refl _ _).alloc (Nat.le_refl _) _
  obtain ⟨W0, hW0⟩ : ∃ W, w.alloc (.cells (ndL 0 noSet (.slice none 0 0)).toArray 27) = W := ⟨_, rfl⟩
  have k0 : Blk W0 w.heap.size 27 (ndL 0 noSet (.slice none 0 0)) := by rw [← hW0]; exact Blk.new _ _ _
  rw [hW0] at hb0
  have HK0 := hide k0
  have HR0 := hide (h.below hb0)
  have HS0 := hide (hS.below hb0)
  have HP0 := hide (KeepR.of (p := p) hb0)
  have HPE := hide (show pieceE R s = (match atomE R s with | none => none | some (n, t) => some (signsE t.size n t)) from rfl)
  clear h hS hb0 k0 hR hRb hAb
  go_enter Tryd.func50, Tryd.ntmps50
  go_wp2_with fail
  rw [show w.alloc (.cells #[.int .i64 0, .int .u64 0, .int .u64 0, .int .u64 0, .int .u64 0, .slice none 0 0] 27) = W0 from hW0]
  clear hW0
  obtain ⟨z2, hz2⟩ : ∃ q, w.heap.size = q := ⟨_, rfl⟩
  rw [hz2] at HK0 ⊢
  refine (HA.out _ HP0.out HR0.out).mono ?_; rintro e w2 hr
  rcases hr.cases with ⟨hx, rfl, h3⟩ | ⟨n, t, k, x0, x1, x2, x3, A, m, cap, hx, rfl, hn, h3, h4⟩
  · go_wp2
    exact ⟨rfl, by rw [HPE.out, hx]; exact ⟨rfl, HP0.out.trans h3⟩⟩
  · have hts := HAB.out n t hx
    rw [hx] at HPE
    dsimp only at HPE
    have h2p : z2 ≠ p := by omega
    have hz2w := HK0.out.lt
    have hw0z : W0.heap.size ≤ w2.heap.size := h4.size
    have c1 : Below w2.heap.size w2 (w2.alloc (.cells (ndL k [x0, x1, x2, x3] (.slice A m cap)).toArray 27)) := (Below.refl _ _).alloc (Nat.le_refl _) _
    have HX := NdX.of _ _ hn
    have c2 := NdX.keep (Q := fun b => w.heap.size ≤ b ∧ b ≠ z2 ∧ b ≠ w2.heap.size) (fun b hb hlt => ⟨by omega, by omega, by omega⟩) (Nat.le_refl _) (fun _ _ _ _ h => h) _ _ HX
    have HB1 := hide (show PcS r p z2 w2.heap.size w (w2.alloc (.cells (ndL k [x0, x1, x2, x3] (.slice A m cap)).toArray 27)) n t (ndL k [x0, x1, x2, x3] (.slice A m cap)) from
      ⟨h3.below c1, (h4.blk HK0.out h2p).below c1, Blk.new _ _ _, c2.low c1, (HS0.out.keepR h4 hgp hrp).below c1, (HP0.out.trans h4).trans (KeepR.of c1)⟩)
    have hz3w : z2 < w2.heap.size := by omega
    clear c1 c2 HX hr hn h3 h4 HS0 HR0 HP0 HK0
    go_wp2_with fail
    rw [show w2.alloc (.cells #[.int .i64 k, .int .u64 (x0 : Int), .int .u64 (x1 : Int), .int .u64 (x2 : Int), .int .u64 (x3 : Int), .slice A m cap] 27) = w2.alloc (.cells (ndL k [x0, x1, x2, x3] (.slice A m cap)).toArray 27) from rfl]
    obtain ⟨z3, hz3⟩ : ∃ q, w2.heap.size = q := ⟨_, rfl⟩
    obtain ⟨w3, hw3⟩ : ∃ W, w2.alloc (.cells (ndL k [x0, x1, x2, x3] (.slice A m cap)).toArray 27) = W := ⟨_, rfl⟩
    rw [hw3, hz3] at HB1
    rw [hw3, hz3]
    have h3p : z3 ≠ p := by omega
    have h23 : z2 ≠ z3 := by omega
    have hr3 : r ≠ z3 := by omega
    have hg3 : 1 ≠ z3 := by omega
    have hz3l : w.heap.size ≤ z3 := by omega
    clear hw3 hz3 hx hz2w hw0z
    obtain ⟨X, hX⟩ : ∃ X, signsE t.size n t = X := ⟨_, rfl⟩
    rw [hX] at HPE
    have HXE := hide hX
    clear hX
    go_loopw [] (fun wr => ∃ (n : Nd) (t : ByteArray) (f : Nat) (k : Int) (x0 x1 x2 x3 : Nat) (A : Option Addr) (m cap : Nat), t.size ≤ f ∧ t.size < s.size ∧ Hid (signsE f n t = X) ∧ Hid (PcS r p z2 z3 w wr n t (ndL k [x0, x1, x2, x3] (.slice A m cap)))) (fun wr => sizeR wr p)
    case atStart => exact ⟨n, t, t.size, k, x0, x1, x2, x3, A, m, cap, Nat.le_refl _, hts, HXE, HB1⟩
    case round =>
      clear HB1 HXE hts
      obtain ⟨n, t, f, k, x0, x1, x2, x3, A, m, cap, hf, hts, HXE, HB⟩ := hrel
      have hsr := sizeR_rd HB.out.rd
      have hnl := nextB_lt t
      have HBd := hide (HB.out.low ((Below.refl _ _).drew))
      obtain ⟨bb, hbb⟩ : ∃ b, nextB t = b := ⟨_, rfl⟩
      have HBB := hide hbb
      rw [hbb] at hnl
      obtain ⟨gg, hgg⟩ : ∃ g, sgn bb = g := ⟨_, rfl⟩
      by_cases hgo : 0 < sgn (nextB t)
      · have hg0 : (0 : Int) < (sgn bb : Int) := by rw [← hbb]; omega
        have HXM := hide (show signsE (f - 1) (.mk (gg : Int) noSet [n]) (t.extract 1 t.size) = X by rw [← HXE.out, signsE_more n t f hf hgo, hbb, hgg])
        have hpos := sgn_pos hgo
        have HT := hide (fun W (h : Rd W p t) => by have := take_any p t W h (by omega); rw [tk_next (sgn_pos hgo), hbb] at this; exact this)
        go_wp2
        refine wp_region_held_drew (S := (fun W => W.cell? ⟨1, 0, none⟩ = some (.map (some r)) ∧ (Instr.lookup 99 (.map (some r)) (.int .u8 (bb : Int)) false).run Tryd.prog W = .ok (.int .i64 (sgn bb : Int)) W)) (by kernel_rfl) ?_ (fun hHeld => ?_)
        · exact HBd.out.sg.at bb hnl
        refine wpAnyH_at (i := 0) (v := ?va0) (d := 6) rfl rfl (by kernel_rfl) (by kernel_rfl) (by kernel_rfl) (fun _ _ _ h => h) (Or.inl ⟨by rfl, fun w' hSw => ?hya0⟩) (by assumption) ?resta0
        case hya0 =>
          (try dsimp only at hSw)
          go_simp
          (try with_reducible rfl)
        (try simp only [Act.put, List.setIfInBounds_toArray, List.set_cons_zero, List.set_cons_succ])
        refine wpAnyH_at (i := 1) (v := ?va1) (d := 7) rfl rfl (by kernel_rfl) (by kernel_rfl) (by kernel_rfl) (fun _ _ _ h => h) (Or.inl ⟨by rfl, fun w' hSw => ?hya1⟩) (by assumption) ?resta1
        case hya1 =>
          (try dsimp only at hSw)
          go_simp
          (try with_reducible rfl)
        (try simp only [Act.put, List.setIfInBounds_toArray, List.set_cons_zero, List.set_cons_succ])
        refine wpAnyH_ready (rs := [2]) (by kernel_rfl) (by simp) ?_
        refine AllReadyH.cons rfl (fun K' hK' => ?_) AllReadyH.nil
        go_simp
        refine (rnext_any p t _ HBd.out.rd (by omega)).mono ?_
        rintro e w' ⟨rfl, rfl⟩
        rw [HBB.out]
        go_wp2_with fail
        refine hK'.out _ _ ?_ (fun hHeld => ?_)
        · exact HBd.out.sg.at bb hnl
        clear hK' K'
        (try simp only [Act.put, List.getElem_toArray, List.getElem_cons_succ, List.getElem_cons_zero, List.setIfInBounds_toArray, List.set_cons_zero, List.set_cons_succ])
        refine wpAnyH_at (i := 3) (v := ?va3) (d := 9) rfl rfl (by kernel_rfl) (by kernel_rfl) (by kernel_rfl) (fun _ _ _ h => h) (Or.inl ⟨by rfl, fun w' hSw => ?hya3⟩) (by assumption) ?resta3
        case hya3 =>
          (try dsimp only at hSw)
          go_simp
          (try with_reducible rfl)
        (try simp only [Act.put, List.setIfInBounds_toArray, List.set_cons_zero, List.set_cons_succ])
        refine wpAnyH_at (i := 4) (v := ?va4) (d := 10) rfl rfl (by kernel_rfl) (by kernel_rfl) (by kernel_rfl) (fun _ _ _ h => h) (Or.inl ⟨by rfl, fun w' hSw => ?hya4⟩) (by assumption) ?resta4
        case hya4 =>
          (try dsimp only at hSw)
          go_simp
          (try with_reducible rfl)
        (try simp only [Act.put, List.setIfInBounds_toArray, List.set_cons_zero, List.set_cons_succ])
        refine wpAnyH_done (by kernel_rfl) ?_ _
        go_wp2
        have HBe := hide (HBd.out.low ((Below.refl _ _).drew))
        obtain ⟨wd, hwd⟩ : ∃ W, wr.drew.drew = W := ⟨_, rfl⟩
        rw [hwd] at HBe
        refine wp_region_held_drew (S := (fun W => W.cell? ⟨1, 0, none⟩ = some (.map (some r)) ∧ (Instr.lookup 99 (.map (some r)) (.int .u8 (bb : Int)) false).run Tryd.prog W = .ok (.int .i64 (sgn bb : Int)) W)) (by kernel_rfl) ?_ (fun hHeld => ?_)
        · exact (by rw [show wr.drew.drew = wd from hwd]; exact HBe.out.sg.at bb hnl)
        rw [show wr.drew.drew = wd from hwd] at hHeld ⊢
        refine wpAnyH_at (i := 0) (v := ?vb0) (d := 11) rfl rfl (by kernel_rfl) (by kernel_rfl) (by kernel_rfl) (fun _ _ _ h => h) (Or.inl ⟨by rfl, fun w' hSw => ?hyb0⟩) (by assumption) ?restb0
        case hyb0 =>
          (try dsimp only at hSw)
          go_simp
          (try with_reducible rfl)
        (try simp only [Act.put, List.setIfInBounds_toArray, List.set_cons_zero, List.set_cons_succ])
        refine wpAnyH_at (i := 1) (v := ?vb1) (d := 12) rfl rfl (by kernel_rfl) (by kernel_rfl) (by kernel_rfl) (fun _ _ _ h => h) (Or.inl ⟨by rfl, fun w' hSw => ?hyb1⟩) (by assumption) ?restb1
        case hyb1 =>
          (try dsimp only at hSw)
          go_simp
          (try with_reducible rfl)
        (try simp only [Act.put, List.setIfInBounds_toArray, List.set_cons_zero, List.set_cons_succ])
        refine wpAnyH_ready (rs := [2, 4]) (by kernel_rfl) (by simp) ?_
        refine AllReadyH.cons rfl (fun K' hK' => ?_) (AllReadyH.cons rfl (fun K' hK' => ?_) AllReadyH.nil)
        · go_simp
          refine (HT.out _ HBe.out.rd).mono ?_; rintro e w4 ⟨rfl, h1, h2⟩
          have HB4 := hide (HBe.out.step h1 h2 hpw h2p h3p hgp hrp)
          clear h1 h2
          go_wp2_with fail
          refine hK'.out _ _ ?_ (fun hHeld => ?_)
          · exact HB4.out.sg.at bb hnl
          clear hK' K'
          (try simp only [Act.put, List.getElem_toArray, List.getElem_cons_succ, List.getElem_cons_zero, List.setIfInBounds_toArray, List.set_cons_zero, List.set_cons_succ])
          refine wpAnyH_at (i := 3) (v := ?vc3) (d := 14) rfl rfl (by kernel_rfl) (by kernel_rfl) (by kernel_rfl) (fun _ _ _ h => h) (Or.inl ⟨by rfl, fun w' hSw => ?hyc3⟩) (by assumption) ?restc3
          case hyc3 =>
            (try dsimp only at hSw)
            go_simp
            (try with_reducible rfl)
          (try simp only [Act.put, List.setIfInBounds_toArray, List.set_cons_zero, List.set_cons_succ])
          have a0 := HB4.out.b3.cell (i := 0) rfl
          have a1 := HB4.out.b3.cell (i := 1) rfl
          have a2 := HB4.out.b3.cell (i := 2) rfl
          have a3 := HB4.out.b3.cell (i := 3) rfl
          have a4 := HB4.out.b3.cell (i := 4) rfl
          have a5 := HB4.out.b3.cell (i := 5) rfl
          refine wpAnyH_ready (rs := [4]) (by kernel_rfl) (by simp) ?_
          refine AllReadyH.cons rfl (fun K' hK' => ?_) AllReadyH.nil
          go_simp
          refine hK'.out _ _ ?_ (fun hHeld => ?_)
          · exact HB4.out.sg.at bb hnl
          clear hK' K'
          (try simp only [Act.put, List.getElem_toArray, List.getElem_cons_succ, List.getElem_cons_zero, List.setIfInBounds_toArray, List.set_cons_zero, List.set_cons_succ])
          have HN5 := hide (show Blk (w4.alloc (.cells (ndL k [x0, x1, x2, x3] (.slice A m cap)).toArray 27)) w4.heap.size 27 (ndL k [x0, x1, x2, x3] (.slice A m cap)) from Blk.new _ _ _)
          have HB5 := hide (HB4.out.low ((Below.refl _ _).alloc (Nat.le_refl _) (.cells (ndL k [x0, x1, x2, x3] (.slice A m cap)).toArray 27)))
          refine wpAnyH_ready (rs := [5]) (by kernel_rfl) (by simp) ?_
          refine AllReadyH.cons rfl (fun K' hK' => ?_) AllReadyH.nil
          go_simp
          refine hK'.out _ _ ?_ (fun hHeld => ?_)
          · exact HB5.out.sg.at bb hnl
          clear hK' K'
          (try simp only [Act.put, List.getElem_toArray, List.getElem_cons_succ, List.getElem_cons_zero, List.setIfInBounds_toArray, List.set_cons_zero, List.set_cons_succ])
          refine wpAnyH_at (i := 6) (v := ?vd6) (d := 17) rfl rfl (by kernel_rfl) (by kernel_rfl) (by kernel_rfl) (fun _ _ _ h => h) (Or.inl ⟨by rfl, fun w' hSw => ?hyd6⟩) (by assumption) ?restd6
          case hyd6 =>
            (try dsimp only at hSw)
            go_simp
            (try with_reducible rfl)
          (try simp only [Act.put, List.setIfInBounds_toArray, List.set_cons_zero, List.set_cons_succ])
          have hzb : w4.heap.size ≠ z2 := fun e => by have := HB4.out.b2.lt; omega
          have hzb3 : w4.heap.size ≠ z3 := fun e => by have := HB4.out.b3.lt; omega
          have hzbw : w.heap.size ≤ w4.heap.size := HB4.out.keep.size
          rw [show w4.alloc (.cells #[.int .i64 k, .int .u64 (x0 : Int), .int .u64 (x1 : Int), .int .u64 (x2 : Int), .int .u64 (x3 : Int), .slice A m cap] 27) = w4.alloc (.cells (ndL k [x0, x1, x2, x3] (.slice A m cap)).toArray 27) from rfl]
          obtain ⟨zb, hzbe⟩ : ∃ q, w4.heap.size = q := ⟨_, rfl⟩
          obtain ⟨wa, hwa⟩ : ∃ W, w4.alloc (.cells (ndL k [x0, x1, x2, x3] (.slice A m cap)).toArray 27) = W := ⟨_, rfl⟩
          rw [hwa] at HB5
          rw [hwa, hzbe] at HN5
          rw [hzbe] at hzb hzb3 hzbw
          rw [hwa, hzbe]
          clear a0 a1 a2 a3 a4 a5
          have a0 := HB5.out.b3.cell (i := 0) rfl
          have a1 := HB5.out.b3.cell (i := 1) rfl
          have a2 := HB5.out.b3.cell (i := 2) rfl
          have a3 := HB5.out.b3.cell (i := 3) rfl
          have a4 := HB5.out.b3.cell (i := 4) rfl
          have a5 := HB5.out.b3.cell (i := 5) rfl
          have af := fun i => HB5.out.b3.frozen i
          have HB6 := hide (HB5.out.wrap HN5.out hzbw hzb hzb3 h23 (Ne.symm h3p) hz3l hg3 hr3 (gg : Int))
          refine wpAnyH_ready (rs := [7]) (by kernel_rfl) (by simp) ?_
          refine AllReadyH.cons rfl (fun K' hK' => ?_) AllReadyH.nil
          go_simp
          refine hK'.out _ _ ?_ (fun hHeld => ?_)
          · exact HB6.out.sg.at bb hnl
          clear hK' K'
          (try simp only [Act.put, List.getElem_toArray, List.getElem_cons_succ, List.getElem_cons_zero, List.setIfInBounds_toArray, List.set_cons_zero, List.set_cons_succ])
          refine wpAnyH_done (by kernel_rfl) ?_ _
          have hs6 := sizeR_rd HB6.out.rd
          go_wp2
          exact ⟨⟨_, t.extract 1 t.size, f - 1, gg, 0, 0, 0, 0, some ⟨zb, 0, none⟩, 1, 1, by rw [ByteArray.size_extract]; omega, by rw [ByteArray.size_extract]; omega, HXM, HB6⟩, by rw [hs6, hsr, ByteArray.size_extract]; have := sgn_pos hgo; omega⟩
        · have a0 := HBe.out.b3.cell (i := 0) rfl
          have a1 := HBe.out.b3.cell (i := 1) rfl
          have a2 := HBe.out.b3.cell (i := 2) rfl
          have a3 := HBe.out.b3.cell (i := 3) rfl
          have a4 := HBe.out.b3.cell (i := 4) rfl
          have a5 := HBe.out.b3.cell (i := 5) rfl
          go_simp
          refine hK'.out _ _ ?_ (fun hHeld => ?_)
          · exact HBe.out.sg.at bb hnl
          clear hK' K'
          (try simp only [Act.put, List.getElem_toArray, List.getElem_cons_succ, List.getElem_cons_zero, List.setIfInBounds_toArray, List.set_cons_zero, List.set_cons_succ])
          refine wpAnyH_ready (rs := [2, 5]) (by kernel_rfl) (by simp) ?_
          refine AllReadyH.cons rfl (fun K' hK' => ?_) (AllReadyH.cons rfl (fun K' hK' => ?_) AllReadyH.nil)
          · go_simp
            refine (HT.out _ HBe.out.rd).mono ?_; rintro e w4 ⟨rfl, h1, h2⟩
            have HB4 := hide (HBe.out.step h1 h2 hpw h2p h3p hgp hrp)
            clear h1 h2
            go_wp2_with fail
            refine hK'.out _ _ ?_ (fun hHeld => ?_)
            · exact HB4.out.sg.at bb hnl
            clear hK' K'
            (try simp only [Act.put, List.getElem_toArray, List.getElem_cons_succ, List.getElem_cons_zero, List.setIfInBounds_toArray, List.set_cons_zero, List.set_cons_succ])
            refine wpAnyH_at (i := 3) (v := ?ve3) (d := 14) rfl rfl (by kernel_rfl) (by kernel_rfl) (by kernel_rfl) (fun _ _ _ h => h) (Or.inl ⟨by rfl, fun w' hSw => ?hye3⟩) (by assumption) ?reste3
            case hye3 =>
              (try dsimp only at hSw)
              go_simp
              (try with_reducible rfl)
            (try simp only [Act.put, List.setIfInBounds_toArray, List.set_cons_zero, List.set_cons_succ])
            have HN5 := hide (show Blk (w4.alloc (.cells (ndL k [x0, x1, x2, x3] (.slice A m cap)).toArray 27)) w4.heap.size 27 (ndL k [x0, x1, x2, x3] (.slice A m cap)) from Blk.new _ _ _)
            have HB5 := hide (HB4.out.low ((Below.refl _ _).alloc (Nat.le_refl _) (.cells (ndL k [x0, x1, x2, x3] (.slice A m cap)).toArray 27)))
            refine wpAnyH_ready (rs := [5]) (by kernel_rfl) (by simp) ?_
            refine AllReadyH.cons rfl (fun K' hK' => ?_) AllReadyH.nil
            go_simp
            refine hK'.out _ _ ?_ (fun hHeld => ?_)
            · exact HB5.out.sg.at bb hnl
            clear hK' K'
            (try simp only [Act.put, List.getElem_toArray, List.getElem_cons_succ, List.getElem_cons_zero, List.setIfInBounds_toArray, List.set_cons_zero, List.set_cons_succ])
            refine wpAnyH_at (i := 6) (v := ?vf6) (d := 17) rfl rfl (by kernel_rfl) (by kernel_rfl) (by kernel_rfl) (fun _ _ _ h => h) (Or.inl ⟨by rfl, fun w' hSw => ?hyf6⟩) (by assumption) ?restf6
            case hyf6 =>
              (try dsimp only at hSw)
              go_simp
              (try with_reducible rfl)
            (try simp only [Act.put, List.setIfInBounds_toArray, List.set_cons_zero, List.set_cons_succ])
            have hzb : w4.heap.size ≠ z2 := fun e => by have := HB4.out.b2.lt; omega
            have hzb3 : w4.heap.size ≠ z3 := fun e => by have := HB4.out.b3.lt; omega
            have hzbw : w.heap.size ≤ w4.heap.size := HB4.out.keep.size
            rw [show w4.alloc (.cells #[.int .i64 k, .int .u64 (x0 : Int), .int .u64 (x1 : Int), .int .u64 (x2 : Int), .int .u64 (x3 : Int), .slice A m cap] 27) = w4.alloc (.cells (ndL k [x0, x1, x2, x3] (.slice A m cap)).toArray 27) from rfl]
            obtain ⟨zb, hzbe⟩ : ∃ q, w4.heap.size = q := ⟨_, rfl⟩
            obtain ⟨wa, hwa⟩ : ∃ W, w4.alloc (.cells (ndL k [x0, x1, x2, x3] (.slice A m cap)).toArray 27) = W := ⟨_, rfl⟩
            rw [hwa] at HB5
            rw [hwa, hzbe] at HN5
            rw [hzbe] at hzb hzb3 hzbw
            rw [hwa, hzbe]
            clear a0 a1 a2 a3 a4 a5
            have a0 := HB5.out.b3.cell (i := 0) rfl
            have a1 := HB5.out.b3.cell (i := 1) rfl
            have a2 := HB5.out.b3.cell (i := 2) rfl
            have a3 := HB5.out.b3.cell (i := 3) rfl
            have a4 := HB5.out.b3.cell (i := 4) rfl
            have a5 := HB5.out.b3.cell (i := 5) rfl
            have af := fun i => HB5.out.b3.frozen i
            have HB6 := hide (HB5.out.wrap HN5.out hzbw hzb hzb3 h23 (Ne.symm h3p) hz3l hg3 hr3 (gg : Int))
            refine wpAnyH_ready (rs := [7]) (by kernel_rfl) (by simp) ?_
            refine AllReadyH.cons rfl (fun K' hK' => ?_) AllReadyH.nil
            go_simp
            refine hK'.out _ _ ?_ (fun hHeld => ?_)
            · exact HB6.out.sg.at bb hnl
            clear hK' K'
            (try simp only [Act.put, List.getElem_toArray, List.getElem_cons_succ, List.getElem_cons_zero, List.setIfInBounds_toArray, List.set_cons_zero, List.set_cons_succ])
            refine wpAnyH_done (by kernel_rfl) ?_ _
            have hs6 := sizeR_rd HB6.out.rd
            go_wp2
            exact ⟨⟨_, t.extract 1 t.size, f - 1, gg, 0, 0, 0, 0, some ⟨zb, 0, none⟩, 1, 1, by rw [ByteArray.size_extract]; omega, by rw [ByteArray.size_extract]; omega, HXM, HB6⟩, by rw [hs6, hsr, ByteArray.size_extract]; have := sgn_pos hgo; omega⟩
          · have HN5 := hide (show Blk (wd.alloc (.cells (ndL k [x0, x1, x2, x3] (.slice A m cap)).toArray 27)) wd.heap.size 27 (ndL k [x0, x1, x2, x3] (.slice A m cap)) from Blk.new _ _ _)
            have HB5 := hide (HBe.out.low ((Below.refl _ _).alloc (Nat.le_refl _) (.cells (ndL k [x0, x1, x2, x3] (.slice A m cap)).toArray 27)))
            have hzb : wd.heap.size ≠ z2 := fun e => by have := HBe.out.b2.lt; omega
            have hzb3 : wd.heap.size ≠ z3 := fun e => by have := HBe.out.b3.lt; omega
            have hzbp : wd.heap.size ≠ p := fun e => by have := HBe.out.rd.lt; omega
            have hzbw : w.heap.size ≤ wd.heap.size := HBe.out.keep.size
            go_simp
            refine hK'.out _ _ ?_ (fun hHeld => ?_)
            · exact HB5.out.sg.at bb hnl
            clear hK' K'
            (try simp only [Act.put, List.getElem_toArray, List.getElem_cons_succ, List.getElem_cons_zero, List.setIfInBounds_toArray, List.set_cons_zero, List.set_cons_succ])
            rw [show wd.alloc (.cells #[.int .i64 k, .int .u64 (x0 : Int), .int .u64 (x1 : Int), .int .u64 (x2 : Int), .int .u64 (x3 : Int), .slice A m cap] 27) = wd.alloc (.cells (ndL k [x0, x1, x2, x3] (.slice A m cap)).toArray 27) from rfl]
            obtain ⟨zb, hzbe⟩ : ∃ q, wd.heap.size = q := ⟨_, rfl⟩
            obtain ⟨wa, hwa⟩ : ∃ W, wd.alloc (.cells (ndL k [x0, x1, x2, x3] (.slice A m cap)).toArray 27) = W := ⟨_, rfl⟩
            rw [hwa] at HB5
            rw [hwa, hzbe] at HN5
            rw [hzbe] at hzb hzb3 hzbw hzbp
            rw [hwa, hzbe]
            clear a0 a1 a2 a3 a4 a5 hHeld
            refine wpAnyH_ready (rs := [2]) (by kernel_rfl) (by simp) ?_
            refine AllReadyH.cons rfl (fun K' hK' => ?_) AllReadyH.nil
            go_simp
            refine (HT.out _ HB5.out.rd).mono ?_; rintro e w4 ⟨rfl, h1, h2⟩
            have HB5 := hide (HB5.out.step h1 h2 hpw h2p h3p hgp hrp)
            have HN5 := hide (h2.blk HN5.out hzbp)
            clear h1 h2
            go_wp2_with fail
            refine hK'.out _ _ ?_ (fun hHeld => ?_)
            · exact HB5.out.sg.at bb hnl
            clear hK' K'
            (try simp only [Act.put, List.getElem_toArray, List.getElem_cons_succ, List.getElem_cons_zero, List.setIfInBounds_toArray, List.set_cons_zero, List.set_cons_succ])
            refine wpAnyH_at (i := 3) (v := ?vg3) (d := 14) rfl rfl (by kernel_rfl) (by kernel_rfl) (by kernel_rfl) (fun _ _ _ h => h) (Or.inl ⟨by rfl, fun w' hSw => ?hyg3⟩) (by assumption) ?restg3
            case hyg3 =>
              (try dsimp only at hSw)
              go_simp
              (try with_reducible rfl)
            (try simp only [Act.put, List.setIfInBounds_toArray, List.set_cons_zero, List.set_cons_succ])
            refine wpAnyH_at (i := 6) (v := ?vg6) (d := 17) rfl rfl (by kernel_rfl) (by kernel_rfl) (by kernel_rfl) (fun _ _ _ h => h) (Or.inl ⟨by rfl, fun w' hSw => ?hyg6⟩) (by assumption) ?restg6
            case hyg6 =>
              (try dsimp only at hSw)
              go_simp
              (try with_reducible rfl)
            (try simp only [Act.put, List.setIfInBounds_toArray, List.set_cons_zero, List.set_cons_succ])
            have a0 := HB5.out.b3.cell (i := 0) rfl
            have a1 := HB5.out.b3.cell (i := 1) rfl
            have a2 := HB5.out.b3.cell (i := 2) rfl
            have a3 := HB5.out.b3.cell (i := 3) rfl
            have a4 := HB5.out.b3.cell (i := 4) rfl
            have a5 := HB5.out.b3.cell (i := 5) rfl
            have af := fun i => HB5.out.b3.frozen i
            have HB6 := hide (HB5.out.wrap HN5.out hzbw hzb hzb3 h23 (Ne.symm h3p) hz3l hg3 hr3 (gg : Int))
            refine wpAnyH_ready (rs := [7]) (by kernel_rfl) (by simp) ?_
            refine AllReadyH.cons rfl (fun K' hK' => ?_) AllReadyH.nil
            go_simp
            refine hK'.out _ _ ?_ (fun hHeld => ?_)
            · exact HB6.out.sg.at bb hnl
            clear hK' K'
            (try simp only [Act.put, List.getElem_toArray, List.getElem_cons_succ, List.getElem_cons_zero, List.setIfInBounds_toArray, List.set_cons_zero, List.set_cons_succ])
            refine wpAnyH_done (by kernel_rfl) ?_ _
            have hs6 := sizeR_rd HB6.out.rd
            go_wp2
            exact ⟨⟨_, t.extract 1 t.size, f - 1, gg, 0, 0, 0, 0, some ⟨zb, 0, none⟩, 1, 1, by rw [ByteArray.size_extract]; omega, by rw [ByteArray.size_extract]; omega, HXM, HB6⟩, by rw [hs6, hsr, ByteArray.size_extract]; have := sgn_pos hgo; omega⟩
      · have hg0 : ¬ (0 : Int) < (sgn bb : Int) := by rw [← hbb]; omega
        go_wp2
        refine wp_region_held_drew (S := (fun W => W.cell? ⟨1, 0, none⟩ = some (.map (some r)) ∧ (Instr.lookup 99 (.map (some r)) (.int .u8 (bb : Int)) false).run Tryd.prog W = .ok (.int .i64 (sgn bb : Int)) W)) (by kernel_rfl) ?_ (fun hHeld => ?_)
        · exact HBd.out.sg.at bb hnl
        refine wpAnyH_at (i := 0) (v := ?vy0) (d := 6) rfl rfl (by kernel_rfl) (by kernel_rfl) (by kernel_rfl) (fun _ _ _ h => h) (Or.inl ⟨by rfl, fun w' hSw => ?hyy0⟩) (by assumption) ?resty0
        case hyy0 =>
          (try dsimp only at hSw)
          go_simp
          (try with_reducible rfl)
        (try simp only [Act.put, List.setIfInBounds_toArray, List.set_cons_zero, List.set_cons_succ])
        refine wpAnyH_at (i := 1) (v := ?vy1) (d := 7) rfl rfl (by kernel_rfl) (by kernel_rfl) (by kernel_rfl) (fun _ _ _ h => h) (Or.inl ⟨by rfl, fun w' hSw => ?hyy1⟩) (by assumption) ?resty1
        case hyy1 =>
          (try dsimp only at hSw)
          go_simp
          (try with_reducible rfl)
        (try simp only [Act.put, List.setIfInBounds_toArray, List.set_cons_zero, List.set_cons_succ])
        refine wpAnyH_ready (rs := [2]) (by kernel_rfl) (by simp) ?_
        refine AllReadyH.cons rfl (fun K' hK' => ?_) AllReadyH.nil
        go_simp
        refine (rnext_any p t _ HBd.out.rd (by omega)).mono ?_
        rintro e w' ⟨rfl, rfl⟩
        rw [HBB.out]
        go_wp2_with fail
        refine hK'.out _ _ ?_ (fun hHeld => ?_)
        · exact HBd.out.sg.at bb hnl
        clear hK' K'
        (try simp only [Act.put, List.getElem_toArray, List.getElem_cons_succ, List.getElem_cons_zero, List.setIfInBounds_toArray, List.set_cons_zero, List.set_cons_succ])
        refine wpAnyH_at (i := 3) (v := ?vy3) (d := 9) rfl rfl (by kernel_rfl) (by kernel_rfl) (by kernel_rfl) (fun _ _ _ h => h) (Or.inl ⟨by rfl, fun w' hSw => ?hyy3⟩) (by assumption) ?resty3
        case hyy3 =>
          (try dsimp only at hSw)
          go_simp
          (try with_reducible rfl)
        (try simp only [Act.put, List.setIfInBounds_toArray, List.set_cons_zero, List.set_cons_succ])
        refine wpAnyH_at (i := 4) (v := ?vy4) (d := 10) rfl rfl (by kernel_rfl) (by kernel_rfl) (by kernel_rfl) (fun _ _ _ h => h) (Or.inl ⟨by rfl, fun w' hSw => ?hyy4⟩) (by assumption) ?resty4
        case hyy4 =>
          (try dsimp only at hSw)
          go_simp
          (try with_reducible rfl)
        (try simp only [Act.put, List.setIfInBounds_toArray, List.set_cons_zero, List.set_cons_succ])
        refine wpAnyH_done (by kernel_rfl) ?_ _
        have HXM := hide (show (n, t) = X by rw [← HXE.out, signsE_end n t f hgo])
        obtain ⟨wd, hwd⟩ : ∃ W, wr.drew = W := ⟨_, rfl⟩
        rw [hwd] at HBd ⊢
        have a0 := HBd.out.b3.cell (i := 0) rfl
        have a1 := HBd.out.b3.cell (i := 1) rfl
        have a2 := HBd.out.b3.cell (i := 2) rfl
        have a3 := HBd.out.b3.cell (i := 3) rfl
        have a4 := HBd.out.b3.cell (i := 4) rfl
        have a5 := HBd.out.b3.cell (i := 5) rfl
        have b0 := HBd.out.b2.cell (i := 0) rfl
        have b1 := HBd.out.b2.cell (i := 1) rfl
        have b2 := HBd.out.b2.cell (i := 2) rfl
        have b3 := HBd.out.b2.cell (i := 3) rfl
        have b4 := HBd.out.b2.cell (i := 4) rfl
        have b5 := HBd.out.b2.cell (i := 5) rfl
        have bf := fun i => HBd.out.b2.frozen i
        go_wp2
        refine bodyPost_ret (results_cell_row rfl _ _ z2 27 (ndL k [x0, x1, x2, x3] (.slice A m cap)).toArray (0, 0) _ rfl (nd_put HBd.out.b2 k x0 x1 x2 x3 (.slice A m cap)) Tryd.underlying27 rfl (by kernel_rfl)) rfl ?_
        have hk := nd_keep wd z2 k x0 x1 x2 x3 (.slice A m cap)
        rw [HPE.out, ← HXM.out]
        exact ⟨_, rfl, NdX.at (fun b hb => hb.1) _ _ (HBd.out.nd.keepR (fun b hb => hb.2.1) hk), HBd.out.rd.keepZ hk (Ne.symm h2p), HBd.out.keep.own hk (by omega)⟩
end Go.Proofs.YtfamoikmfbpigaaDoor
namespace Go.Proofs.YtfamoikmfbpigaaDoor
open Go.RowKit

mutual
/-- How many nodes a node has. -/
def szN : Nd → Nat
  | .mk _ _ kids => szL kids + 1
def szL : List Nd → Nat
  | [] => 0
  | x :: l => szN x + szL l
end
theorem szL_at : ∀ {l : List Nd} {j : Nat} {x : Nd}, l[j]? = some x → szN x ≤ szL l
  | [], _, _, h => by simp at h
  | y :: l, 0, x, h => by simp at h; subst h; unfold szL; omega
  | y :: l, j + 1, x, h => by
    have := szL_at (l := l) (j := j) (x := x) (by simpa using h)
    unfold szL; omega
theorem NdX.parts {P : Nat → Prop} {W : World} {k : Int} {S : List Nat} {kids : List Nd} {cs : List Value} (h : NdX P W (.mk k S kids) cs) : ∃ (x0 x1 x2 x3 : Nat) (A : Option Addr) (cap : Nat), S = [x0, x1, x2, x3] ∧ cs = ndL k [x0, x1, x2, x3] (.slice A kids.length cap) ∧ W64 [x0, x1, x2, x3] ∧ kids.length ≤ cap ∧ cap ≤ maxLen ∧ NdsX P W kids A 0 := by
  unfold NdX at h
  obtain ⟨A, cap, rfl, hw, h3, h4, h5⟩ := h
  obtain ⟨a, b, c, d, rfl⟩ := four hw.1
  exact ⟨a, b, c, d, A, cap, rfl, rfl, hw, h3, h4, h5⟩
/-- Two boxes behind one another. -/
theorem two_box (w : World) (t t' : TypeId) (cs ds : List Value) : Blk ((w.alloc (.cells cs.toArray t)).alloc (.cells ds.toArray t')) w.heap.size t cs ∧ Blk ((w.alloc (.cells cs.toArray t)).alloc (.cells ds.toArray t')) (w.heap.size + 1) t' ds ∧ Below w.heap.size w ((w.alloc (.cells cs.toArray t)).alloc (.cells ds.toArray t')) := by
  have e : (w.alloc (.cells cs.toArray t)).heap.size = w.heap.size + 1 := by simp
  refine ⟨(Blk.new _ _ _).alloc _, ?_, ((Below.refl _ _).alloc (Nat.le_refl _) _).alloc (by simp) _⟩
  have := Blk.new (w.alloc (.cells cs.toArray t)) t' ds
  rw [e] at this
  exact this
/-- What a comparison ends with. -/
def SameP (n m : Nd) (w : World) (e : Ending) (w' : World) : Prop := ∃ b, e = .returned (.bool b) ∧ (b = true ↔ n = m) ∧ Below w.heap.size w w'
theorem SameP.no {n m : Nd} {w w' : World} {e : Ending} (he : e = .returned (.bool false)) (h : n ≠ m) (hb : Below w.heap.size w w') : SameP n m w e w' := ⟨false, he, by simpa using h, hb⟩
theorem SameP.yes {n m : Nd} {w w' : World} {e : Ending} (he : e = .returned (.bool true)) (h : n = m) (hb : Below w.heap.size w w') : SameP n m w e w' := ⟨true, he, by simpa using h, hb⟩
theorem mk_ne_k {k k' : Int} {S S' : List Nat} {L L' : List Nd} (h : k ≠ k') : Nd.mk k S L ≠ Nd.mk k' S' L' := fun e => by injection e; exact h ‹_›
theorem mk_ne_s {k k' : Int} {S S' : List Nat} {L L' : List Nd} (h : S ≠ S') : Nd.mk k S L ≠ Nd.mk k' S' L' := fun e => by injection e; exact h ‹_›
theorem mk_ne_l {k k' : Int} {S S' : List Nat} {L L' : List Nd} (h : L ≠ L') : Nd.mk k S L ≠ Nd.mk k' S' L' := fun e => by injection e; exact h ‹_›
set_option maxHeartbeats 4000000 in
set_option maxRecDepth 100000 in
theorem same_any : ∀ (f : Nat) (n m : Nd) (cs ds : List Value) (P Q : Nat → Prop) (w : World), szN n < f → NdX P w n cs → NdX Q w m ds →
    Calls Tryd.prog 18 #[.agg cs.toArray, .agg ds.toArray] w (SameP n m w)
  | 0, _, _, _, _, _, _, _, hf, _, _ => absurd hf (by omega)
  | f + 1, .mk k S L, .mk k' S' L', cs, ds, P, Q, w, hf, hn, hm => by
    obtain ⟨x0, x1, x2, x3, A, cap, rfl, rfl, hw, hc, hcm, hkids⟩ := hn.parts
    obtain ⟨y0, y1, y2, y3, A', cap', rfl, rfl, hw', hc', hcm', hkids'⟩ := hm.parts
    have IH := hide (fun (n m : Nd) (cs ds : List Value) (W : World) (h1 : szN n < f) (h2 : NdX P W n cs) (h3 : NdX Q W m ds) => same_any f n m cs ds P Q W h1 h2 h3)
    have HK := hide hkids
    have HK' := hide hkids'
    obtain ⟨m, hm0⟩ : ∃ m, L.length = m := ⟨_, rfl⟩
    obtain ⟨m', hm0'⟩ : ∃ m, L'.length = m := ⟨_, rfl⟩
    have HM := hide hm0
    have HM' := hide hm0'
    have HF := hide (show szL L < f by unfold szN at hf; omega)
    rw [hm0] at hc ⊢
    rw [hm0'] at hc' ⊢
    have HBX := hide (two_box w 27 27 (ndL k [x0, x1, x2, x3] (.slice A m cap)) (ndL k' [y0, y1, y2, y3] (.slice A' m' cap')))
    clear hn hm hkids hkids' hw hw' hm0 hm0' hf
    unfold maxLen at hcm hcm'
    rw [show (ndL k [x0, x1, x2, x3] (.slice A m cap)).toArray = #[.int .i64 k, .int .u64 (x0 : Int), .int .u64 (x1 : Int), .int .u64 (x2 : Int), .int .u64 (x3 : Int), .slice A m cap] from rfl, show (ndL k' [y0, y1, y2, y3] (.slice A' m' cap')).toArray = #[.int .i64 k', .int .u64 (y0 : Int), .int .u64 (y1 : Int), .int .u64 (y2 : Int), .int .u64 (y3 : Int), .slice A' m' cap'] from rfl]
    by_cases hk : k = k'
    case neg =>
      have HR := hide (mk_ne_k (S := [x0, x1, x2, x3]) (S' := [y0, y1, y2, y3]) (L := L) (L' := L') hk)
      have q0 : (k != k') = true := by simpa using hk
      clear hk
      go_enter Tryd.func18, Tryd.ntmps18
      go_wp2
      go_ret
      exact SameP.no rfl HR.out HBX.out.2.2
    subst hk
    by_cases hs : [x0, x1, x2, x3] = [y0, y1, y2, y3]
    case neg =>
      have HR := hide (mk_ne_s (k := k) (k' := k) (L := L) (L' := L') hs)
      have q1 := eq4_ne hs
      clear hs
      go_enter Tryd.func18, Tryd.ntmps18
      go_wp2
      go_ret
      exact SameP.no rfl HR.out HBX.out.2.2
    injection hs with e0 e1; injection e1 with e1 e2; injection e2 with e2 e3; injection e3 with e3 _
    subst e0 e1 e2 e3
    have q1 := eq4_same x0 x1 x2 x3
    by_cases hmm : m = m'
    case neg =>
      have HR := hide (mk_ne_l (k := k) (k' := k) (S := [x0, x1, x2, x3]) (S' := [x0, x1, x2, x3]) (L := L) (L' := L') (fun e => hmm (by rw [← HM.out, ← HM'.out, e])))
      have q2 : ((m : Int) != (m' : Int)) = true := by simp; omega
      clear hmm
      go_enter Tryd.func18, Tryd.ntmps18
      go_wp2
      go_ret
      exact SameP.no rfl HR.out HBX.out.2.2
    subst hmm
    go_enter Tryd.func18, Tryd.ntmps18
    go_wp2
    rw [show (w.alloc (.cells #[.int .i64 k, .int .u64 (x0 : Int), .int .u64 (x1 : Int), .int .u64 (x2 : Int), .int .u64 (x3 : Int), .slice A m cap] 27)).alloc (.cells #[.int .i64 k, .int .u64 (x0 : Int), .int .u64 (x1 : Int), .int .u64 (x2 : Int), .int .u64 (x3 : Int), .slice A' m cap'] 27) = (w.alloc (.cells (ndL k [x0, x1, x2, x3] (.slice A m cap)).toArray 27)).alloc (.cells (ndL k [x0, x1, x2, x3] (.slice A' m cap')).toArray 27) from rfl]
    obtain ⟨W0, hW0⟩ : ∃ W, (w.alloc (.cells (ndL k [x0, x1, x2, x3] (.slice A m cap)).toArray 27)).alloc (.cells (ndL k [x0, x1, x2, x3] (.slice A' m cap')).toArray 27) = W := ⟨_, rfl⟩
    rw [hW0] at HBX ⊢
    clear hW0
    have HB0 := hide HBX.out.2.2
    have HX := hide HBX.out.1
    have HY := hide HBX.out.2.1
    clear HBX
    go_loopw [30] (fun iv wr => ∃ j : Nat, iv = .int .i64 j ∧ j ≤ m ∧ Hid (∀ i, i < j → L[i]? = L'[i]?) ∧ Hid (Blk wr w.heap.size 27 (ndL k [x0, x1, x2, x3] (.slice A m cap))) ∧ Hid (Blk wr (w.heap.size + 1) 27 (ndL k [x0, x1, x2, x3] (.slice A' m cap'))) ∧ Hid (Below w.heap.size w wr)) (fun iv _ => m - (intOf iv).toNat)
    case atStart => exact ⟨0, rfl, by omega, hide (fun i h => absurd h (by omega)), HX, HY, HB0⟩
    case round =>
      clear HX HY HB0
      obtain ⟨j, rfl, hj, HE, HX, HY, HB⟩ := hrel
      by_cases hlt : j < m
      · obtain ⟨x, hx⟩ : ∃ x, L[j]? = some x := ⟨_, List.getElem?_eq_getElem (by rw [HM.out]; exact hlt)⟩
        obtain ⟨y, hy⟩ : ∃ y, L'[j]? = some y := ⟨_, List.getElem?_eq_getElem (by rw [HM'.out]; exact hlt)⟩
        obtain ⟨b, o, cx, rfl, hb, -, hcx, hnx⟩ := HK.out.get j x hx
        obtain ⟨b', o', cy, rfl, hb', -, hcy, hny⟩ := HK'.out.get j y hy
        obtain ⟨kx, u0, u1, u2, u3, Ax, mx, capx, rfl, -, -⟩ := hnx.form
        obtain ⟨ky, v0, v1, v2, v3, Ay, my, capy, rfl, -, -⟩ := hny.form
        have HCX := hide (fun (W : World) (hW : Below w.heap.size w W) i u (hu : (ndL kx [u0, u1, u2, u3] (.slice Ax mx capx))[i]? = some u) => show W.cell? ⟨b, o + j * 6 + i, none⟩ = some u from (hW.cell (p := ⟨b, o + j * 6 + i, none⟩) hb.2).trans (by have := hcx i u hu; rw [Nat.zero_add] at this; exact this))
        have HCY := hide (fun (W : World) (hW : Below w.heap.size w W) i u (hu : (ndL ky [v0, v1, v2, v3] (.slice Ay my capy))[i]? = some u) => show W.cell? ⟨b', o' + j * 6 + i, none⟩ = some u from (hW.cell (p := ⟨b', o' + j * 6 + i, none⟩) hb'.2).trans (by have := hcy i u hu; rw [Nat.zero_add] at this; exact this))
        have hsx : szN x < f := Nat.lt_of_le_of_lt (szL_at hx) HF.out
        have HI := hide (fun (W : World) (hW : Below w.heap.size w W) => IH.out x y _ _ W hsx (hnx.low hW) (hny.low hW))
        have HXY := hide (show L[j]? = L'[j]? ↔ x = y by rw [hx, hy]; exact ⟨fun e => Option.some.inj e, fun e => by rw [e]⟩)
        clear hx hy hcx hcy hnx hny hsx
        have a5 := HX.out.cell (i := 5) rfl
        have b5 := HY.out.cell (i := 5) rfl
        have c0 := HCX.out wr HB.out 0 _ rfl
        have c1 := HCX.out wr HB.out 1 _ rfl
        have c2 := HCX.out wr HB.out 2 _ rfl
        have c3 := HCX.out wr HB.out 3 _ rfl
        have c4 := HCX.out wr HB.out 4 _ rfl
        have c5 := HCX.out wr HB.out 5 _ rfl
        have d0 := HCY.out wr HB.out 0 _ rfl
        have d1 := HCY.out wr HB.out 1 _ rfl
        have d2 := HCY.out wr HB.out 2 _ rfl
        have d3 := HCY.out wr HB.out 3 _ rfl
        have d4 := HCY.out wr HB.out 4 _ rfl
        have d5 := HCY.out wr HB.out 5 _ rfl
        have hj0 : (0 : Int) ≤ (j : Int) := by omega
        have hj1 : (j : Int) < (m : Int) := by omega
        go_wp2
        go_region_held3 (fun W => W.cell? ⟨w.heap.size, 5, none⟩ = some (.slice (some ⟨b, o, none⟩) m cap) ∧ W.cell? ⟨w.heap.size + 1, 5, none⟩ = some (.slice (some ⟨b', o', none⟩) m cap') ∧ W.cell? ⟨b, o + j * 6, none⟩ = some (.int .i64 kx) ∧ W.cell? ⟨b, o + j * 6 + 1, none⟩ = some (.int .u64 (u0 : Int)) ∧ W.cell? ⟨b, o + j * 6 + 2, none⟩ = some (.int .u64 (u1 : Int)) ∧ W.cell? ⟨b, o + j * 6 + 3, none⟩ = some (.int .u64 (u2 : Int)) ∧ W.cell? ⟨b, o + j * 6 + 4, none⟩ = some (.int .u64 (u3 : Int)) ∧ W.cell? ⟨b, o + j * 6 + 5, none⟩ = some (.slice Ax mx capx) ∧ W.cell? ⟨b', o' + j * 6, none⟩ = some (.int .i64 ky) ∧ W.cell? ⟨b', o' + j * 6 + 1, none⟩ = some (.int .u64 (v0 : Int)) ∧ W.cell? ⟨b', o' + j * 6 + 2, none⟩ = some (.int .u64 (v1 : Int)) ∧ W.cell? ⟨b', o' + j * 6 + 3, none⟩ = some (.int .u64 (v2 : Int)) ∧ W.cell? ⟨b', o' + j * 6 + 4, none⟩ = some (.int .u64 (v3 : Int)) ∧ W.cell? ⟨b', o' + j * 6 + 5, none⟩ = some (.slice Ay my capy))
          (first | exact ⟨a5, b5, c0, c1, c2, c3, c4, c5, d0, d1, d2, d3, d4, d5⟩ | (refine ⟨?_, ?_, ?_, ?_, ?_, ?_, ?_, ?_, ?_, ?_, ?_, ?_, ?_, ?_⟩ <;> first | exact (hb9.cell (World.block_lt_of_cell? _ _ a5)).trans a5 | exact (hb9.cell (World.block_lt_of_cell? _ _ b5)).trans b5 | exact (hb9.cell (World.block_lt_of_cell? _ _ c0)).trans c0 | exact (hb9.cell (World.block_lt_of_cell? _ _ c1)).trans c1 | exact (hb9.cell (World.block_lt_of_cell? _ _ c2)).trans c2 | exact (hb9.cell (World.block_lt_of_cell? _ _ c3)).trans c3 | exact (hb9.cell (World.block_lt_of_cell? _ _ c4)).trans c4 | exact (hb9.cell (World.block_lt_of_cell? _ _ c5)).trans c5 | exact (hb9.cell (World.block_lt_of_cell? _ _ d0)).trans d0 | exact (hb9.cell (World.block_lt_of_cell? _ _ d1)).trans d1 | exact (hb9.cell (World.block_lt_of_cell? _ _ d2)).trans d2 | exact (hb9.cell (World.block_lt_of_cell? _ _ d3)).trans d3 | exact (hb9.cell (World.block_lt_of_cell? _ _ d4)).trans d4 | exact (hb9.cell (World.block_lt_of_cell? _ _ d5)).trans d5))
          (first | (go_at_call 18; refine (HI.out wr.drew ((HB.out.trans ((Below.refl wr.heap.size wr).mono HB.out.size)).drew)).mono ?_; intro e w9 hp; obtain ⟨b9, rfl, hb9e, hb9⟩ := hp) | fail)
        have HXY9 := hide (hb9e.trans HXY.out.symm)
        have HX9 := hide ((show Blk wr.drew w.heap.size 27 (ndL k [x0, x1, x2, x3] (.slice (some ⟨b, o, none⟩) m cap)) from HX.out).below hb9)
        have HY9 := hide ((show Blk wr.drew (w.heap.size + 1) 27 (ndL k [x0, x1, x2, x3] (.slice (some ⟨b', o', none⟩) m cap')) from HY.out).below hb9)
        have HB9 := hide ((HB.out.trans ((Below.refl wr.heap.size wr).mono HB.out.size)).drew.trans (hb9.mono HB.out.size))
        clear hb9 hb9e HX HY HB a5 b5 c0 c1 c2 c3 c4 c5 d0 d1 d2 d3 d4 d5 HCX HCY HI HXY IH HK HK'
        cases b9 with
        | true =>
          go_wp2
          go_roundw
          case rel => exact ⟨j + 1, by go_num, by omega, hide (fun i hi => by
            rcases Nat.lt_or_ge i j with h | h
            · exact HE.out i h
            · obtain rfl : i = j := by omega
              exact HXY9.out.1 rfl), HX9, HY9, HB9⟩
          case measure => simp [intOf]; omega
        | false =>
          have HR := hide (mk_ne_l (k := k) (k' := k) (S := [x0, x1, x2, x3]) (S' := [x0, x1, x2, x3]) (L := L) (L' := L') (fun e => by
            have := HXY9.out.2 (by rw [e])
            cases this))
          go_wp2
          go_ret
          exact SameP.no rfl HR.out HB9.out
      · obtain rfl : j = m := by omega
        have HR := hide (show Nd.mk k [x0, x1, x2, x3] L = Nd.mk k [x0, x1, x2, x3] L' by
          congr 1
          apply List.ext_getElem?
          intro i
          rcases Nat.lt_or_ge i j with h | h
          · exact HE.out i h
          · rw [List.getElem?_eq_none (by rw [HM.out]; exact h), List.getElem?_eq_none (by rw [HM'.out]; exact h)])
        go_wp2
        go_ret
        exact SameP.yes rfl HR.out HB.out
end Go.Proofs.YtfamoikmfbpigaaDoor
namespace Go.Proofs.YtfamoikmfbpigaaDoor
open Go.ChangeShapes Go.WideShapes Go.ChangeAt Go.RowKit Go.Lib

theorem cellsFN : Tryd.prog.cellsOf 27 = 6 := by kernel_rfl
theorem cellsFI : Tryd.prog.cellsOf 3 = 1 := by kernel_rfl
theorem cellsFU : Tryd.prog.cellsOf 23 = 1 := by kernel_rfl
theorem cellsFA : Tryd.prog.cellsOf 24 = 4 := by kernel_rfl
theorem cellsFS : Tryd.prog.cellsOf 25 = 1 := by kernel_rfl
theorem wfU {n : Int} (h : (Lit.int .u64 n).wf = true) : ∃ m : Nat, n = (m : Int) ∧ m < 18446744073709551616 := by
  simp [Lit.wf] at h
  have h1 : (0 : Int) ≤ n := h.1
  have h2 : n ≤ 18446744073709551615 := h.2
  exact ⟨n.toNat, by omega, by omega⟩
section
variable {H : Type} {enc : TypeId × Value → H}
theorem rows_less {P : Program} {α : Type} {w : World} {t e : TypeId} {cs : List Value} {x : DataW H × List MemPlace} {fuel : Nat} (k : Nat) (hk : 0 < k) (R : α → List Value → Prop)
    (ht : P.underlying t = some (.slice e)) (hc : P.cellsOf e = k)
    (hel : ∀ (n : Nat) (cs : List Value) (x : DataW H × List MemPlace), n < fuel → cs.length = k → DataW.trod enc P w 0 (fun _ => true) true n e cs = some x → ∃ a : α, R a cs)
    (hf : DataW.trod enc P w 0 (fun _ => true) true fuel t cs = some x) :
    ∃ (A : Option Addr) (cap : Nat) (l : List α), cs = [.slice A l.length cap] ∧ l.length ≤ cap ∧ cap ≤ maxLen ∧
      ∀ j y, l[j]? = some y → ∃ b o cy, A = some ⟨b, o, none⟩ ∧ b < w.heap.size ∧ cy.length = k ∧ R y cy ∧ ∀ i u, cy[i]? = some u → w.cell? ⟨b, o + j * k + i, none⟩ = some u := by
  rcases DataW.trod_slice ht hf with ⟨hcs, _⟩ | ⟨a, len, cap, elems, rest, n, rfl, hcs, _, _, hlen, hcap, hel2, hi, _, _⟩
  · exact ⟨none, 0, [], by rw [hcs]; rfl, Nat.le_refl _, by unfold maxLen; omega, fun j x h => by simp at h⟩
  · rw [hc] at hi
    obtain ⟨l, hl, hp⟩ := build_list (fun i (y : α) => ∃ b o cy, some a = some (⟨b, o, none⟩ : Addr) ∧ b < w.heap.size ∧ cy.length = k ∧ R y cy ∧ ∀ q u, cy[q]? = some u → w.cell? ⟨b, o + i * k + q, none⟩ = some u) len (fun i hlt => by
      have h1 := hi i hlt
      rw [List.getElem?_eq_getElem (show i < elems.length by omega)] at h1
      obtain ⟨cs', h2, h3⟩ := Option.bind_eq_some_iff.1 h1
      obtain ⟨_, h4, h5⟩ := World.cells?_some h2
      obtain ⟨y, hy⟩ := hel n cs' _ (Nat.lt_succ_self n) h4 h3
      obtain ⟨b, off, spot⟩ := a
      have hspot : spot = none := by
        have g1 := hi 0 (by omega)
        rw [List.getElem?_eq_getElem (show 0 < elems.length by omega)] at g1
        obtain ⟨cs0, g2, _⟩ := Option.bind_eq_some_iff.1 g1
        obtain ⟨_, g4, g5⟩ := World.cells?_some g2
        have g6 := g5 0 hk
        rw [List.getElem?_eq_getElem (by omega)] at g6
        simpa [Addr.add] using World.cell?_spot g6
      subst hspot
      have hc0 := h5 0 hk
      rw [List.getElem?_eq_getElem (by omega)] at hc0
      simp only [Addr.add_lit] at hc0 h5
      refine ⟨y, b, off, cs', rfl, World.block_lt_of_cell? _ _ hc0, h4, hy, fun q u hu => ?_⟩
      rw [h5 q (by have := (List.getElem?_eq_some_iff.1 hu).1; omega)]
      exact hu)
    exact ⟨some a, cap, l, by rw [hcs, hl], by omega, hcap, fun j x hx => hp j x hx⟩
set_option maxRecDepth 100000 in
theorem node_of_trod {w : World} : ∀ (fuel f : Nat) (cs : List Value) (x : DataW H × List MemPlace), f < fuel → cs.length = 6 → DataW.trod enc Tryd.prog w 0 (fun _ => true) true f 27 cs = some x → ∃ n : Nd, NdX (fun _ => True) w n cs
  | 0, _, _, _, h, _, _ => absurd h (by omega)
  | fuel + 1, f, cs, x, hf, hl, h => by
    obtain ⟨xs, n, e, hx, -, hlen, hi⟩ := DataW.trod_struct Tryd.underlying27 h
    match cs, hl with
    | [c0, c1, c2, c3, c4, c5], _ =>
      match xs, hlen with
      | [y0, y1, y2], _ =>
        have h0 := hi 0 _ rfl
        have h1 := hi 1 _ rfl
        have h2 := hi 2 _ rfl
        simp [cellsFI, cellsFA, cellsFS] at h0 h1 h2
        obtain ⟨a, e0, _, _⟩ := DataW.trod_int Tryd.underlying3 h0
        obtain ⟨z0, z1, z2, z3, m, -, g0, g1, g2, g3⟩ := trod_array4 Tryd.underlying24 cellsFU h1
        obtain ⟨a0, k0, _, w0⟩ := DataW.trod_int Tryd.underlying23 g0
        obtain ⟨a1, k1, _, w1⟩ := DataW.trod_int Tryd.underlying23 g1
        obtain ⟨a2, k2, _, w2⟩ := DataW.trod_int Tryd.underlying23 g2
        obtain ⟨a3, k3, _, w3⟩ := DataW.trod_int Tryd.underlying23 g3
        obtain ⟨b0, rfl, v0⟩ := wfU w0
        obtain ⟨b1, rfl, v1⟩ := wfU w1
        obtain ⟨b2, rfl, v2⟩ := wfU w2
        obtain ⟨b3, rfl, v3⟩ := wfU w3
        simp only [List.cons.injEq, and_true] at e0 k0 k1 k2 k3
        subst e0 k0 k1 k2 k3
        obtain ⟨A, cap, l, e5, hc1, hc2, hr⟩ := rows_less (α := Nd) (R := fun n cy => NdX (fun _ => True) w n cy) 6 (by omega) Tryd.underlying25 cellsFN (fun n' cs' x' hn' hl' hx' => node_of_trod fuel n' cs' x' (by omega) hl' hx') h2
        simp only [List.cons.injEq, and_true] at e5
        subst e5
        have hk : NdsX (fun _ => True) w l A 0 := by
          cases hA : A with
          | none =>
            cases l with
            | nil => unfold NdsX; trivial
            | cons y l =>
              obtain ⟨b, o, cy, e, _⟩ := hr 0 y rfl
              rw [hA] at e; cases e
          | some ad =>
            cases l with
            | nil => unfold NdsX; trivial
            | cons y l' =>
              obtain ⟨b, o, cy, e, hb, -, -, -⟩ := hr 0 y rfl
              rw [← hA, e]
              refine NdsX.mk ⟨trivial, hb⟩ _ 0 fun i x hx => ?_
              obtain ⟨b', o', cy', e', hb', hl', hn', hc'⟩ := hr i x hx
              rw [e] at e'
              injection e' with e'
              injection e' with eb eo
              subst eb eo
              exact ⟨cy', hl', fun q u hu => by rw [Nat.zero_add]; exact hc' q u hu, hn'⟩
        refine ⟨.mk a [b0, b1, b2, b3] l, ?_⟩
        unfold NdX
        refine ⟨A, cap, rfl, ⟨rfl, fun x hx => ?_⟩, hc1, hc2, hk⟩
        simp at hx
        omega
set_option maxRecDepth 100000 in
theorem open_node {w : World} {v : Value} {d : DataW H} {p : List MemPlace} {b0 : Nat} (hv : Value.okWide Tryd.prog w .any b0 27 v) (h : DataW.Trod enc Tryd.prog w 0 (fun _ => true) true 27 v d p) :
    ∃ (n : Nd) (cs : List Value), v = .agg cs.toArray ∧ NdX (fun _ => True) w n cs := by
  obtain ⟨cs, rfl, hs⟩ := okWide_structP Tryd.underlying27 hv
  obtain ⟨fuel, hf⟩ := h
  rw [cellsFN] at hs
  obtain ⟨l⟩ := cs
  obtain ⟨n, hn⟩ := node_of_trod (fuel + 1) fuel l _ (by omega) (by simpa using hs) (by simpa [Value.cells] using hf)
  exact ⟨n, l, rfl, hn⟩
end
end Go.Proofs.YtfamoikmfbpigaaDoor
namespace Go.Proofs.YtfamoikmfbpigaaDoor
open Go.ChangeShapes Go.WideShapes Go.ChangeAt Go.RowKit Go.Lib

def laidF : List (String × DataW Unit) := [("limner/regs.signs", Rows.laid_limner_regs_signs)]
set_option maxRecDepth 100000 in
theorem door_metF (os : Os) (args : Array Value) : laidMetH Tryd.prog laidF ((World.doorLaid Tryd.prog 400 os).forCall (fun _ _ => 0) ⟨#[], args, []⟩).memory :=
  laidMetH_of_parts3 (fuel := 8) (laidMet_of_run' 8 (by kernel_rfl) (by kernel_rfl)) (by kernel_rfl) (by kernel_rfl)
set_option maxRecDepth 100000 in
theorem sgr_of_met {W : World} (h : laidMetH Tryd.prog laidF W) : ∃ r, SGr r W := by
  rw [MakeChecks.laidMetH_plain _ _ _ (by kernel_rfl)] at h
  exact sgr_of_laid h (by simp [laidF])
set_option maxRecDepth 100000 in
/-- A byte that comes in. -/
theorem open_u8 {H : Type} {enc : TypeId × Value → H} {w : World} {v : Value} {d : DataW H} {p : List MemPlace} {b0 : Nat} (hv : Value.okWide Tryd.prog w .any b0 5 v) (h : DataW.Trod enc Tryd.prog w 0 (fun _ => true) true 5 v d p) : ∃ c : Nat, v = .int .u8 (c : Int) ∧ c < 256 := by
  obtain ⟨n, rfl, -, -, m⟩ := open_int Tryd.underlying5 hv h
  obtain ⟨h0, h1⟩ := wfB m
  exact ⟨n.toNat, by rw [Int.toNat_of_nonneg h0], by omega⟩
end Go.Proofs.YtfamoikmfbpigaaDoor
namespace Go.Proofs.YtfamoikmfbpigaaDoor
open Go.RowKit

def rowL (R : ByteArray → Option (Nd × ByteArray)) : Nat → List Nd → ByteArray → Option (List Nd × ByteArray)
  | 0, _, _ => none
  | f + 1, l, s => if s.size = 0 ∨ nextB s = 124 ∨ nextB s = 41 then some (l, s) else match pieceE R s with | none => none | some (n, t) => rowL R f (l ++ [n]) t
def rowE (R : ByteArray → Option (Nd × ByteArray)) (s : ByteArray) : Option (Nd × ByteArray) := match rowL R (s.size + 1) [] s with | none => none | some (l, t) => some (joinedE 2 l, t)
def rowsL (R : ByteArray → Option (Nd × ByteArray)) : Nat → List Nd → ByteArray → Option (List Nd × ByteArray)
  | 0, _, _ => none
  | f + 1, l, s => if isB s 124 = true then match rowE R (s.extract 1 s.size) with | none => none | some (n, t) => rowsL R f (l ++ [n]) t else some (l, s)
def rowsE1 (R : ByteArray → Option (Nd × ByteArray)) (s : ByteArray) : Option (Nd × ByteArray) :=
  match rowE R s with | none => none | some (n, t) => match rowsL R (t.size + 1) [n] t with | none => none | some (l, u) => some (joinedE 3 l, u)
def rowsE : Nat → ByteArray → Option (Nd × ByteArray)
  | 0, _ => none
  | f + 1, s => rowsE1 (rowsE f) s
theorem signsE_sz : ∀ (f : Nat) (n : Nd) (s : ByteArray), (signsE f n s).2.size ≤ s.size
  | 0, n, s => Nat.le_refl _
  | f + 1, n, s => by
    rw [signsE]
    split
    · have := signsE_sz f (.mk (sgn (nextB s)) noSet [n]) (s.extract 1 s.size)
      rw [ByteArray.size_extract] at this; omega
    · exact Nat.le_refl _
theorem braL_sz : ∀ (f : Nat) (b : Bool) (s : ByteArray) (S : List Nat) (S' : List Nat) (t : ByteArray), braL f b s S = some (S', t) → t.size ≤ s.size
  | 0, _, _, _, _, _, h => by cases h
  | f + 1, b, s, S, S', t, h => by
    rw [braL] at h
    split at h
    · split at h
      · cases h
      · rename_i a t1 h1
        have k1 := let_bd h1
        split at h
        · split at h
          · cases h
          · rename_i b2 t2 h2
            have k2 := let_bd h2
            rw [ByteArray.size_extract] at k2
            split at h
            · cases h
            · have := braL_sz f _ _ _ _ _ h; omega
        · have := braL_sz f _ _ _ _ _ h; omega
    · injection h with h; injection h with h1 h2; subst h2; exact Nat.le_refl _
theorem skipS_sz (s : ByteArray) (b : Nat) : (skipS s b).size ≤ s.size := by
  unfold skipS
  split
  · rw [ByteArray.size_extract]; omega
  · exact Nat.le_refl _
theorem atom_bd {R : ByteArray → Option (Nd × ByteArray)} (hRb : ∀ u n v, R u = some (n, v) → v.size ≤ u.size) {s t : ByteArray} {n : Nd} (h : atomE R s = some (n, t)) : t.size < s.size := by
  unfold atomE at h
  split at h
  · cases h
  · rename_i b t1 h1
    have k1 := tk_bd h1
    split at h
    · split at h
      · cases h
      · rename_i n2 t2 h2
        have := hRb _ _ _ h2
        split at h
        · injection h with h; injection h with e1 e2; subst e2; rw [ByteArray.size_extract]; omega
        · cases h
    · split at h
      · unfold braE at h
        split at h
        · cases h
        · rename_i S t2 h2
          have := braL_sz _ _ _ _ _ _ h2
          have := skipS_sz t1 94
          injection h with h; injection h with e1 e2; subst e2; rw [ByteArray.size_extract]; omega
      · split at h
        · injection h with h; injection h with e1 e2; subst e2; omega
        · split at h
          · split at h
            · cases h
            · rename_i c t2 h2
              have := esc_bd h2
              injection h with h; injection h with e1 e2; subst e2; omega
          · split at h
            · cases h
            · injection h with h; injection h with e1 e2; subst e2; omega
theorem piece_bd {R : ByteArray → Option (Nd × ByteArray)} (hRb : ∀ u n v, R u = some (n, v) → v.size ≤ u.size) {s t : ByteArray} {n : Nd} (h : pieceE R s = some (n, t)) : t.size < s.size := by
  unfold pieceE at h
  split at h
  · cases h
  · rename_i n1 t1 h1
    have := atom_bd hRb h1
    injection h with h
    have h2 := signsE_sz t1.size n1 t1
    rw [h] at h2
    dsimp only at h2; omega
theorem rowL_sz {R : ByteArray → Option (Nd × ByteArray)} (hRb : ∀ u n v, R u = some (n, v) → v.size ≤ u.size) : ∀ (f : Nat) (l l' : List Nd) (s t : ByteArray), rowL R f l s = some (l', t) → t.size ≤ s.size
  | 0, _, _, _, _, h => by cases h
  | f + 1, l, l', s, t, h => by
    rw [rowL] at h
    split at h
    · injection h with h; injection h with e1 e2; subst e2; exact Nat.le_refl _
    · split at h
      · cases h
      · rename_i n1 t1 h1
        have := piece_bd hRb h1
        have := rowL_sz hRb f _ _ _ _ h
        omega
theorem row_bd {R : ByteArray → Option (Nd × ByteArray)} (hRb : ∀ u n v, R u = some (n, v) → v.size ≤ u.size) {s t : ByteArray} {n : Nd} (h : rowE R s = some (n, t)) : t.size ≤ s.size := by
  unfold rowE at h
  split at h
  · cases h
  · rename_i l t1 h1
    have := rowL_sz hRb _ _ _ _ _ h1
    injection h with h; injection h with e1 e2; subst e2; exact this
theorem rowsL_sz {R : ByteArray → Option (Nd × ByteArray)} (hRb : ∀ u n v, R u = some (n, v) → v.size ≤ u.size) : ∀ (f : Nat) (l l' : List Nd) (s t : ByteArray), rowsL R f l s = some (l', t) → t.size ≤ s.size
  | 0, _, _, _, _, h => by cases h
  | f + 1, l, l', s, t, h => by
    rw [rowsL] at h
    split at h
    · split at h
      · cases h
      · rename_i n1 t1 h1
        have := row_bd hRb h1
        have := rowsL_sz hRb f _ _ _ _ h
        rw [ByteArray.size_extract] at *
        omega
    · injection h with h; injection h with e1 e2; subst e2; exact Nat.le_refl _
theorem rowsE_bd : ∀ (f : Nat) (u : ByteArray) (n : Nd) (v : ByteArray), rowsE f u = some (n, v) → v.size ≤ u.size
  | 0, _, _, _, h => by cases h
  | f + 1, u, n, v, h => by
    rw [rowsE, rowsE1] at h
    split at h
    · cases h
    · rename_i n1 t1 h1
      have := row_bd (rowsE_bd f) h1
      split at h
      · cases h
      · rename_i l u1 h2
        have := rowsL_sz (rowsE_bd f) _ _ _ _ _ h2
        injection h with h; injection h with e1 e2; subst e2; omega
theorem RowN.own {W : World} {B : Nat} {v : Value} {L : List Nd} (h : RowN W B v L) : ∀ q, v.ownBlock = some q → B ≤ q ∧ q < W.heap.size := by
  intro q hq
  obtain ⟨Cs, h1, h2, h3, h4⟩ := h
  rcases h3.2 with ⟨rfl, -⟩ | ⟨g, cap, cur, rfl, e2, e3, -⟩
  · cases hq
  · injection hq with hq; subst hq
    exact ⟨e2, (Array.getElem?_eq_some_iff.1 e3).1⟩
theorem KeepR.grown {p : Nat} {w X Y : World} {row : Option Nat} (h : KeepR p w X) (hg : X.grownBy Y row) (hr : ∀ q, row = some q → w.heap.size ≤ q) : KeepR p w Y :=
  ⟨hg.os.trans h.os, hg.tape.trans h.tape, hg.output.trans h.output, Nat.le_trans h.size hg.size, fun b hb hne => (hg.block b (Nat.lt_of_lt_of_le hb h.size) (fun e => by have := hr b e.symm; omega)).trans (h.block b hb hne)⟩
theorem SGr.grown {r : Nat} {X Y : World} {row : Option Nat} (h : SGr r X) (hg : X.grownBy Y row) (h1 : some 1 ≠ row) (h2 : some r ≠ row) : SGr r Y := by
  refine ⟨hg.cell h.1 h1, ?_⟩
  obtain ⟨es, clock, he, F, hs, hD⟩ := h.2
  exact ⟨es, clock, (hg.block r h.lt h2).trans he, F, hs, hD⟩
theorem Blk.grown {X Y : World} {row : Option Nat} {b : Nat} {t : TypeId} {cs : List Value} (h : Blk X b t cs) (hg : X.grownBy Y row) (h1 : some b ≠ row) : Blk Y b t cs := (hg.block b h.lt h1).trans h
/-- What row's box and slice hold. -/
structure RwS (r p z2 : Nat) (w W : World) (l : List Nd) (t : ByteArray) (v : Value) : Prop where
  rd : Rd W p t
  b2 : Blk W z2 27 (ndL 0 noSet (.slice none 0 0))
  row : RowN W (z2 + 1) v l
  sg : SGr r W
  keep : KeepR p w W
theorem RwS.step {r p z2 : Nat} {w W V : World} {l : List Nd} {t t' : ByteArray} {v : Value} (h : RwS r p z2 w W l t v) (hr : Rd V p t') (hk : KeepR p W V) (h2 : p < z2) (hg : 1 ≠ p) (hrp : r ≠ p) : RwS r p z2 w V l t' v :=
  ⟨hr, hk.blk h.b2 (by omega), h.row.keep hk.size (fun b hb hlt => hk.block b hlt (by omega)), h.sg.keepR hk hg hrp, h.keep.trans hk⟩
theorem RwS.low {r p z2 : Nat} {w W V : World} {l : List Nd} {t : ByteArray} {v : Value} (h : RwS r p z2 w W l t v) (hb : Below W.heap.size W V) : RwS r p z2 w V l t v :=
  ⟨h.rd.below hb, h.b2.below hb, h.row.keep hb.size (fun b _ hlt => hb.block b hlt), h.sg.below hb, h.keep.trans (KeepR.of hb)⟩
theorem RwS.app {r p z2 : Nat} {w W V : World} {l : List Nd} {t : ByteArray} {v v' : Value} {n : Nd} {cs : List Value} {Cs : List (List Value)} (h : RwS r p z2 w W l t v) (hz : z2 = w.heap.size) (hp : p < z2) (hgz : 1 < z2) (hrz : r < z2) (h1 : Cs.length = l.length) (h2 : ∀ cs ∈ Cs, cs.length = 6) (h4 : ∀ (j : Nat) (x : Nd), l[j]? = some x → ∃ cs, Cs[j]? = some cs ∧ NdX (fun b => z2 + 1 ≤ b ∧ some b ≠ v.ownBlock) W x cs)
    (hx : NdX (fun b => z2 + 1 ≤ b ∧ some b ≠ v.ownBlock) W n cs) (hown : V.ownsRow (z2 + 1) 27 6 v' (l.length + 1) (Cs.flatten ++ cs)) (hg : W.grownBy V v.ownBlock) (hat : v'.ownBlock = v.ownBlock ∨ v'.ownBlock = some W.heap.size) : RwS r p z2 w V (l ++ [n]) t v' := by
  have ho : ∀ q, v.ownBlock = some q → z2 + 1 ≤ q := fun q hq => (h.row.own q hq).1
  exact ⟨Blk.grown h.rd hg (fun e => by have := ho _ e.symm; omega), Blk.grown h.b2 hg (fun e => by have := ho _ e.symm; omega), RowN.app h1 h2 h4 hx hown hg hat, h.sg.grown hg (fun e => by have := ho _ e.symm; omega) (fun e => by have := ho _ e.symm; omega), h.keep.grown hg (fun q hq => by have := ho q hq; omega)⟩
theorem new_at (W : World) (cs : List Value) : ∀ j u, cs[j]? = some u → (W.alloc (.cells cs.toArray 27)).cell? ((⟨W.heap.size, 0, none⟩ : Addr).add j) = some u := by
  intro j u hu
  have h := (Blk.new W 27 cs).cell (i := j) hu
  rw [← h]
  congr 1
  unfold Addr.add
  split <;> simp_all
set_option maxHeartbeats 4000000 in
set_option maxRecDepth 100000 in
theorem row_any (r p : Nat) (s : ByteArray) (R : ByteArray → Option (Nd × ByteArray)) (w : World) (h : Rd w p s) (hm : s.size ≤ 100000) (hS : SGr r w) (hrp : r ≠ p) (hgp : 1 ≠ p)
    (hR : ∀ u W, u.size < s.size → Rd W p u → KeepR p w W → Calls Tryd.prog 27 #[.pointer (some ⟨p, 0, none⟩)] W (ResN p W (R u))) (hRb : ∀ u n v, R u = some (n, v) → v.size ≤ u.size) :
    Calls Tryd.prog 37 #[.pointer (some ⟨p, 0, none⟩)] w (ResN p w (rowE R s)) := by
  have HP := hide (fun (t : ByteArray) (W : World) (ht : t.size ≤ s.size) (hk : KeepR p w W) (hr : Rd W p t) (hs : SGr r W) => piece_any r p t R W hr (by omega) hs hrp hgp (fun u V hu hv hkv => hR u V (by omega) hv (hk.trans hkv)) hRb (fun n t' he => atom_bd hRb he))
  have HBD := hide (fun t n t' (he : pieceE R t = some (n, t')) => piece_bd hRb he)
  have HPE := hide (show rowE R s = (match rowL R (s.size + 1) [] s with | none => none | some (l, t) => some (joinedE 2 l, t)) from rfl)
  have hpw := h.lt
  have hgw : 1 < w.heap.size := World.block_lt_of_cell? _ _ hS.1
  have hrw := hS.lt
  have hb0 : Below w.heap.size w (w.alloc (.cells (ndL 0 noSet (.slice none 0 0)).toArray 27)) := (Below.refl _ _).alloc (Nat.le_refl _) _
  obtain ⟨W0, hW0⟩ : ∃ W, w.alloc (.cells (ndL 0 noSet (.slice none 0 0)).toArray 27) = W := ⟨_, rfl⟩
  have k0 : Blk W0 w.heap.size 27 (ndL 0 noSet (.slice none 0 0)) := by rw [← hW0]; exact Blk.new _ _ _
  rw [hW0] at hb0
  obtain ⟨i0, hi, hz0, hz1, hz2⟩ := infoN_parts
  have HB1 := hide (show RwS r p w.heap.size w W0 [] s (.slice none 0 0) from ⟨h.below hb0, k0, RowN.nil _ _, hS.below hb0, KeepR.of hb0⟩)
  clear h hS hb0 k0 hR hRb
  go_enter Tryd.func37, Tryd.ntmps37
  go_wp2_with fail
  rw [show w.alloc (.cells #[.int .i64 0, .int .u64 0, .int .u64 0, .int .u64 0, .int .u64 0, .slice none 0 0] 27) = W0 from hW0]
  clear hW0
  obtain ⟨z2, hz2e⟩ : ∃ q, q = w.heap.size := ⟨_, rfl⟩
  rw [← hz2e] at HB1 ⊢
  have hpz : p < z2 := by omega
  have hgz : 1 < z2 := by omega
  have hrz : r < z2 := by omega
  have HZ2 := hide hz2e
  have hwz2 : w.heap.size ≤ z2 := by omega
  clear hz2e
  obtain ⟨X, hX⟩ : ∃ X, rowL R (s.size + 1) [] s = X := ⟨_, rfl⟩
  rw [hX] at HPE
  have HXE := hide hX
  clear hX
  go_loopw [3] (fun v wr => ∃ (l : List Nd) (t : ByteArray) (f : Nat), t.size < f ∧ l.length + t.size ≤ s.size ∧ Hid (rowL R f l t = X) ∧ Hid (RwS r p z2 w wr l t v)) (fun _ wr => sizeR wr p)
  case atStart => exact ⟨[], s, s.size + 1, by omega, by simp, HXE, HB1⟩
  case round =>
    clear HB1 HXE
    obtain ⟨l, t, f, hf, hlt, HXE, HB⟩ := hrel
    obtain ⟨f, rfl⟩ : ∃ g, f = g + 1 := ⟨f - 1, by omega⟩
    have hsr := sizeR_rd HB.out.rd
    have r0 := HB.out.rd.cell (i := 0) rfl
    have HST := HXE.out
    rw [rowL] at HST
    by_cases h0 : 0 < t.size
    · have he := ne_emp (s := t) (by omega)
      have hnb : nextB t = t[0].toNat := dif_pos h0
      by_cases h124 : nextB t = 124
      · rw [if_pos (.inr (.inl h124))] at HST
        have HXM := hide HST
        have q1 : ((t[0].toNat : Int) != 124) = false := by simp; omega
        clear HST
        as_aux_lemma =>
          obtain ⟨A, cap, rfl, hlc, hcap, hkids⟩ := HB.out.row.kids
          have HJ := hide (joined_any (z2 + 1) 2 A l.length cap l wr rfl hlc hcap (by omega) hkids)
          clear hlc hcap hkids
          go_wp2_with fail
          refine HJ.out.mono ?_; rintro e w9 ⟨cs, he9, hn, hb9⟩
          have hx9 := NdX.of _ _ hn
          obtain ⟨k, x0, x1, x2, x3, A9, m9, cap9, rfl, -, -⟩ := hx9.form
          have he9 : e = .returned (.agg #[.int .i64 k, .int .u64 (x0 : Int), .int .u64 (x1 : Int), .int .u64 (x2 : Int), .int .u64 (x3 : Int), .slice A9 m9 cap9]) := he9
          subst he9
          have HB9 := hide (HB.out.low hb9)
          have HX9 := hide hx9
          clear hn hb9 hx9 HJ
          have bf := fun i => HB9.out.b2.frozen i
          have b0 := HB9.out.b2.cell (i := 0) rfl
          have b1 := HB9.out.b2.cell (i := 1) rfl
          have b2 := HB9.out.b2.cell (i := 2) rfl
          have b3 := HB9.out.b2.cell (i := 3) rfl
          have b4 := HB9.out.b2.cell (i := 4) rfl
          have b5 := HB9.out.b2.cell (i := 5) rfl
          go_wp2
          refine bodyPost_ret (results_cell_row rfl _ _ z2 27 (ndL k [x0, x1, x2, x3] (.slice A9 m9 cap9)).toArray (0, 0) _ rfl (nd_put HB9.out.b2 k x0 x1 x2 x3 (.slice A9 m9 cap9)) Tryd.underlying27 rfl (by kernel_rfl)) rfl ?_
          have hk := nd_keep w9 z2 k x0 x1 x2 x3 (.slice A9 m9 cap9)
          rw [HPE.out, ← HXM.out]
          exact ⟨_, rfl, NdX.at (fun b hb => by omega) _ _ (HX9.out.keepR (fun b hb => by omega) hk), HB9.out.rd.keepZ hk (by omega), HB9.out.keep.own hk (by omega)⟩
      · by_cases h41 : nextB t = 41
        · rw [if_pos (.inr (.inr h41))] at HST
          have HXM := hide HST
          have q1 : ((t[0].toNat : Int) != 124) = true := by simp; omega
          have q2 : ((t[0].toNat : Int) != 41) = false := by simp; omega
          clear HST
          as_aux_lemma =>
            obtain ⟨A, cap, rfl, hlc, hcap, hkids⟩ := HB.out.row.kids
            have HJ := hide (joined_any (z2 + 1) 2 A l.length cap l wr rfl hlc hcap (by omega) hkids)
            clear hlc hcap hkids
            go_wp2_with fail
            refine HJ.out.mono ?_; rintro e w9 ⟨cs, he9, hn, hb9⟩
            have hx9 := NdX.of _ _ hn
            obtain ⟨k, x0, x1, x2, x3, A9, m9, cap9, rfl, -, -⟩ := hx9.form
            have he9 : e = .returned (.agg #[.int .i64 k, .int .u64 (x0 : Int), .int .u64 (x1 : Int), .int .u64 (x2 : Int), .int .u64 (x3 : Int), .slice A9 m9 cap9]) := he9
            subst he9
            have HB9 := hide (HB.out.low hb9)
            have HX9 := hide hx9
            clear hn hb9 hx9 HJ
            have bf := fun i => HB9.out.b2.frozen i
            have b0 := HB9.out.b2.cell (i := 0) rfl
            have b1 := HB9.out.b2.cell (i := 1) rfl
            have b2 := HB9.out.b2.cell (i := 2) rfl
            have b3 := HB9.out.b2.cell (i := 3) rfl
            have b4 := HB9.out.b2.cell (i := 4) rfl
            have b5 := HB9.out.b2.cell (i := 5) rfl
            go_wp2
            refine bodyPost_ret (results_cell_row rfl _ _ z2 27 (ndL k [x0, x1, x2, x3] (.slice A9 m9 cap9)).toArray (0, 0) _ rfl (nd_put HB9.out.b2 k x0 x1 x2 x3 (.slice A9 m9 cap9)) Tryd.underlying27 rfl (by kernel_rfl)) rfl ?_
            have hk := nd_keep w9 z2 k x0 x1 x2 x3 (.slice A9 m9 cap9)
            rw [HPE.out, ← HXM.out]
            exact ⟨_, rfl, NdX.at (fun b hb => by omega) _ _ (HX9.out.keepR (fun b hb => by omega) hk), HB9.out.rd.keepZ hk (by omega), HB9.out.keep.own hk (by omega)⟩
        · rw [if_neg (by rintro (h | h | h) <;> omega)] at HST
          have q1 : ((t[0].toNat : Int) != 124) = true := by simp; omega
          have q2 : ((t[0].toNat : Int) != 41) = true := by simp; omega
          clear hnb h124 h41
          · go_wp2_with fail
            refine (HP.out t _ (by omega) HB.out.keep HB.out.rd HB.out.sg).mono ?_; rintro e w4 hr
            rcases hr.cases with ⟨hx, rfl, h3⟩ | ⟨n, t', k, x0, x1, x2, x3, A, m, cap, hx, rfl, hn, h3, h4⟩
            · rw [hx] at HST
              have HNX := HST
              clear hr hx
              go_wp2
              exact ⟨rfl, by rw [HPE.out, ← HNX]; exact ⟨rfl, HB.out.keep.trans h3⟩⟩
            · have hts := HBD.out t n t' hx
              rw [hx] at HST
              dsimp only at HST
              have HXM := hide HST
              have HB4 := hide (HB.out.step h3 h4 hpz hgp hrp)
              have hwz := HB.out.b2.lt
              have HN4 := hide (NdX.keep (Q := fun b => z2 + 1 ≤ b ∧ some b ≠ u3.ownBlock) (fun b hb _ => ⟨by omega, fun e => by have := (HB.out.row.own b e.symm).2; omega⟩) (Nat.le_refl _) (fun _ _ _ _ h => h) _ _ (NdX.of _ _ hn))
              clear hr hx h3 h4 hn HST HB HXE
              have hbl : Below w4.heap.size w4 (w4.alloc (.cells (ndL k [x0, x1, x2, x3] (.slice A m cap)).toArray 27)) := (Below.refl _ _).alloc (Nat.le_refl _) _
              have HBa := hide (HB4.out.low hbl)
              have HNa := hide (HN4.out.low hbl)
              obtain ⟨Cs, hc1, hc2, hc3, hc4⟩ := HBa.out.row
              have HC4 := hide hc4
              have hzz := HBa.out.b2.lt
              clear hbl hc4
              go_wp2_with (at_builtin; refine wpList_append_own_at _ rfl _ _ 25 rfl (z2 + 1) 27 i0 _ 6 64 Tryd.underlying25 hi hz0 hz1 hz2 (by rfl) (by decide) u3 l.length Cs.flatten rfl hc3 ⟨w4.heap.size, 0, none⟩ 1 1 (ndL k [x0, x1, x2, x3] (.slice A m cap)) rfl rfl (new_at w4 (ndL k [x0, x1, x2, x3] (.slice A m cap))) (NdX.one HNa.out) (by unfold maxLen; omega) (by omega) hzz ?_; intro v' w6 hown1 hgrow1 _ hat1)
              have HB6 := hide (HBa.out.app HZ2.out hpz hgz hrz hc1 hc2 HC4.out HNa.out hown1 hgrow1 hat1)
              clear hown1 hgrow1 hat1 HC4 hc1 hc2 hc3 HBa HNa
              have hs6 := sizeR_rd HB6.out.rd
              go_wp2
              go_roundw
              case rel => exact ⟨l ++ [n], t', f, by omega, by rw [List.length_append]; simp; omega, HXM, HB6⟩
              case measure => rw [hs6, hsr]; omega
    · obtain rfl := is_emp (s := t) (by omega)
      rw [if_pos (.inl rfl)] at HST
      have HXM := hide HST
      clear HST
      as_aux_lemma =>
        obtain ⟨A, cap, rfl, hlc, hcap, hkids⟩ := HB.out.row.kids
        have HJ := hide (joined_any (z2 + 1) 2 A l.length cap l wr rfl hlc hcap (by omega) hkids)
        clear hlc hcap hkids
        go_wp2_with fail
        refine HJ.out.mono ?_; rintro e w9 ⟨cs, he9, hn, hb9⟩
        have hx9 := NdX.of _ _ hn
        obtain ⟨k, x0, x1, x2, x3, A9, m9, cap9, rfl, -, -⟩ := hx9.form
        have he9 : e = .returned (.agg #[.int .i64 k, .int .u64 (x0 : Int), .int .u64 (x1 : Int), .int .u64 (x2 : Int), .int .u64 (x3 : Int), .slice A9 m9 cap9]) := he9
        subst he9
        have HB9 := hide (HB.out.low hb9)
        have HX9 := hide hx9
        clear hn hb9 hx9 HJ
        have bf := fun i => HB9.out.b2.frozen i
        have b0 := HB9.out.b2.cell (i := 0) rfl
        have b1 := HB9.out.b2.cell (i := 1) rfl
        have b2 := HB9.out.b2.cell (i := 2) rfl
        have b3 := HB9.out.b2.cell (i := 3) rfl
        have b4 := HB9.out.b2.cell (i := 4) rfl
        have b5 := HB9.out.b2.cell (i := 5) rfl
        go_wp2
        refine bodyPost_ret (results_cell_row rfl _ _ z2 27 (ndL k [x0, x1, x2, x3] (.slice A9 m9 cap9)).toArray (0, 0) _ rfl (nd_put HB9.out.b2 k x0 x1 x2 x3 (.slice A9 m9 cap9)) Tryd.underlying27 rfl (by kernel_rfl)) rfl ?_
        have hk := nd_keep w9 z2 k x0 x1 x2 x3 (.slice A9 m9 cap9)
        rw [HPE.out, ← HXM.out]
        exact ⟨_, rfl, NdX.at (fun b hb => by omega) _ _ (HX9.out.keepR (fun b hb => by omega) hk), HB9.out.rd.keepZ hk (by omega), HB9.out.keep.own hk (by omega)⟩
end Go.Proofs.YtfamoikmfbpigaaDoor
