/- The actions that a slice holds; a slice of actions that the call made, and what is appended to it. -/
import Derived.Test.YtmheleifjpfciaaDoorAplain
import Derived.Test.YtmheleifjpfciaaDoorNext
import Derived.Laws.OwnMore
import Derived.Maps.AppendAt
import Derived.OwnWalk
import Derived.Laws.AppendOwnNone
import Derived.Deep.DeepFit
import Derived.Deep.RegionHeld
namespace Go.Proofs.YtmheleifjpfciaaDoor
open Go.RowKit

theorem own_formA {w : World} {B : Nat} {e : TypeId} {k : Nat} {v : Value} {n : Nat} {xs : List Value} (h : w.ownsRow B e k v n xs) : ∃ A c, v = .slice A n c := by
  rcases h.2 with ⟨rfl, rfl⟩ | ⟨g, cap, cur, rfl, _⟩
  · exact ⟨_, _, rfl⟩
  · exact ⟨_, _, rfl⟩
theorem own_belowA {w W : World} {B : Nat} {e : TypeId} {k : Nat} {v : Value} {n : Nat} {xs : List Value} (h : w.ownsRow B e k v n xs) (hb : Below w.heap.size w W) : W.ownsRow B e k v n xs := by
  refine ⟨h.1, ?_⟩
  rcases h.2 with h0 | ⟨g, cap, cur, rfl, hg, hh, h1, h2, h3, h4⟩
  · exact .inl h0
  · exact .inr ⟨g, cap, cur, rfl, hg, (hb.block g (Array.getElem?_eq_some_iff.1 hh).1).trans hh, h1, h2, h3, h4⟩

/-- The block's elements are of type t. -/
def TyA (w : World) (b : Nat) (t : TypeId) : Prop := ∃ cs f, w.heap[b]? = some (.cells cs t f)
theorem TyA.below {w W : World} {b : Nat} {t : TypeId} (h : TyA w b t) (hb : Below w.heap.size w W) : TyA W b t := by
  obtain ⟨cs, f, hh⟩ := h
  exact ⟨cs, f, (hb.block b (Array.getElem?_eq_some_iff.1 hh).1).trans hh⟩
/-- The numbers that a slice holds. -/
def NumsV (W : World) (v : Value) (l : List Int) : Prop :=
  ∃ A cap, v = .slice A l.length cap ∧ ∀ (j : Nat) (x : Int), l[j]? = some x → ∃ b o, A = some ⟨b, o, none⟩ ∧ TyA W b 3 ∧ W.cell? ⟨b, o + j, none⟩ = some (.int .i64 x)
theorem NumsV.below {w W : World} {v : Value} {l : List Int} (h : NumsV w v l) (hb : Below w.heap.size w W) : NumsV W v l := by
  obtain ⟨A, cap, e, hc⟩ := h
  refine ⟨A, cap, e, fun j x hx => ?_⟩
  obtain ⟨b, o, ea, ht, hx⟩ := hc j x hx
  exact ⟨b, o, ea, ht.below hb, (hb.cell (p := ⟨b, o + j, none⟩) (World.block_lt_of_cell? _ _ hx)).trans hx⟩
theorem NumsV.nil (W : World) : NumsV W (.slice none 0 0) [] := ⟨none, 0, rfl, fun j x h => by simp at h⟩

def acCells (x : Value × Ac) : List Value := [.int .i64 x.2.kind, .int .i32 x.2.r, x.1, .int .u8 x.2.fin]
def flatA (M : List (Value × Ac)) : List Value := M.flatMap acCells
theorem flatA_len (M : List (Value × Ac)) : (flatA M).length = M.length * 4 := by
  unfold flatA
  induction M with
  | nil => rfl
  | cons a l ih => simp only [List.flatMap_cons, List.length_append, List.length_cons, acCells, List.length_nil] at ih ⊢; omega
theorem flatA_app (M N : List (Value × Ac)) : flatA (M ++ N) = flatA M ++ flatA N := by simp [flatA]
theorem flatA_at (M : List (Value × Ac)) (j : Nat) (x : Value × Ac) (h : M[j]? = some x) (i : Nat) (hi : i < 4) : (flatA M)[j * 4 + i]? = (acCells x)[i]? := by
  induction M generalizing j with
  | nil => simp at h
  | cons a l ih =>
    unfold flatA at ih ⊢
    rw [List.flatMap_cons]
    cases j with
    | zero =>
      obtain rfl : a = x := by simpa using h
      rw [List.getElem?_append_left (by simp [acCells]; omega), Nat.zero_mul, Nat.zero_add]
    | succ j =>
      rw [List.getElem?_append_right (by simp [acCells]; omega), show (j + 1) * 4 + i - (acCells a).length = j * 4 + i by simp [acCells]; omega]
      exact ih j (by simpa using h)
/-- A slice that reads as these actions. -/
def ActsV (W : World) (v : Value) (L : List Ac) : Prop :=
  ∃ (A : Option Addr) (cap : Nat) (M : List (Value × Ac)), v = .slice A L.length cap ∧ M.map (·.2) = L ∧ (L = [] → A = none ∧ cap = 0) ∧ L.length ≤ cap ∧ (∀ x ∈ M, NumsV W x.1 x.2.ps ∧ x.1.oneCell' = true) ∧ ∀ (j : Nat) (u : Value), (flatA M)[j]? = some u → ∃ b o, A = some ⟨b, o, none⟩ ∧ W.cell? ⟨b, o + j, none⟩ = some u
theorem ActsV.below {w W : World} {v : Value} {L : List Ac} (h : ActsV w v L) (hb : Below w.heap.size w W) : ActsV W v L := by
  obtain ⟨A, cap, M, e, em, h0, hcap, hn, hc⟩ := h
  refine ⟨A, cap, M, e, em, h0, hcap, fun x hx => ⟨(hn x hx).1.below hb, (hn x hx).2⟩, fun j u hu => ?_⟩
  obtain ⟨b, o, ea, hx⟩ := hc j u hu
  exact ⟨b, o, ea, (hb.cell (p := ⟨b, o + j, none⟩) (World.block_lt_of_cell? _ _ hx)).trans hx⟩
theorem ActsV.nil (W : World) : ActsV W (.slice none 0 0) [] := ⟨none, 0, [], rfl, rfl, fun _ => ⟨rfl, rfl⟩, by simp, fun x h => by simp at h, fun j u h => by simp [flatA] at h⟩
theorem NumsV.one {W : World} {v : Value} {l : List Int} (h : NumsV W v l) : v.oneCell' = true := by
  obtain ⟨A, cap, rfl, _⟩ := h
  rfl
/-- One action that lies in a block of its own. -/
theorem ActsV.one {W : World} {g : Nat} {x : Value × Ac} (hn : NumsV W x.1 x.2.ps) (h : ∀ (j : Nat) (u : Value), (acCells x)[j]? = some u → W.cell? ⟨g, j, none⟩ = some u) : ActsV W (.slice (some ⟨g, 0, none⟩) 1 1) [x.2] :=
  ⟨some ⟨g, 0, none⟩, 1, [x], rfl, rfl, (fun e => by cases e), by simp, fun y hy => (by simpa using hy : y = x) ▸ ⟨hn, hn.one⟩, fun j u hu => ⟨g, 0, rfl, by rw [Nat.zero_add]; exact h j u (by simpa [flatA] using hu)⟩⟩
theorem acts_at {W : World} {A : Option Addr} {n cap : Nat} {L : List Ac} (h : ActsV W (.slice A n cap) L) {j : Nat} {a : Ac} (hj : L[j]? = some a) :
    ∃ b o pv, A = some ⟨b, o, none⟩ ∧ NumsV W pv a.ps ∧ W.cell? ⟨b, o + j * 4, none⟩ = some (.int .i64 a.kind) ∧ W.cell? ⟨b, o + j * 4 + 1, none⟩ = some (.int .i32 a.r) ∧ W.cell? ⟨b, o + j * 4 + 2, none⟩ = some pv ∧ W.cell? ⟨b, o + j * 4 + 3, none⟩ = some (.int .u8 a.fin) := by
  obtain ⟨A', cap', M, e, em, h0, hcap, hn, hc⟩ := h
  injection e with e1 e2 e3
  subst e1
  rw [← em, List.getElem?_map, Option.map_eq_some_iff] at hj
  obtain ⟨x, hx, rfl⟩ := hj
  have hm : x ∈ M := List.mem_of_getElem? hx
  have g0 := flatA_at M j x hx 0 (by omega)
  have g1 := flatA_at M j x hx 1 (by omega)
  have g2 := flatA_at M j x hx 2 (by omega)
  have g3 := flatA_at M j x hx 3 (by omega)
  obtain ⟨b, o, rfl, c0⟩ := hc _ _ g0
  obtain ⟨b1, o1, e1, c1⟩ := hc _ _ g1
  obtain ⟨b2, o2, e2, c2⟩ := hc _ _ g2
  obtain ⟨b3, o3, e3, c3⟩ := hc _ _ g3
  injection e1 with e1; injection e1 with e1 e1'; subst e1 e1'
  injection e2 with e2; injection e2 with e2 e2'; subst e2 e2'
  injection e3 with e3; injection e3 with e3 e3'; subst e3 e3'
  exact ⟨b, o, x.1, rfl, (hn x hm).1, c0, c1, c2, c3⟩

/-- A slice of actions that the call made: its elements' type is E. -/
def OwnA (W : World) (B : Nat) (E : TypeId) (v : Value) (L : List Ac) : Prop :=
  ∃ M : List (Value × Ac), M.map (·.2) = L ∧ W.ownsRow B E 4 v M.length (flatA M) ∧ ∀ x ∈ M, NumsV W x.1 x.2.ps ∧ x.1.oneCell' = true
theorem OwnA.nil (W : World) (B : Nat) (E : TypeId) : OwnA W B E (.slice none 0 0) [] := ⟨[], rfl, World.ownsRow_nil _ _ _ _, fun x h => by simp at h⟩
theorem OwnA.below {w W : World} {B : Nat} {E : TypeId} {v : Value} {L : List Ac} (h : OwnA w B E v L) (hb : Below w.heap.size w W) : OwnA W B E v L := by
  obtain ⟨M, em, hr, hn⟩ := h
  exact ⟨M, em, own_belowA hr hb, fun x hx => ⟨(hn x hx).1.below hb, (hn x hx).2⟩⟩
theorem OwnA.acts {W : World} {B : Nat} {E : TypeId} {v : Value} {L : List Ac} (h : OwnA W B E v L) (h0 : L = [] → v = .slice none 0 0) : ActsV W v L := by
  obtain ⟨M, rfl, hr, hn⟩ := h
  have hr0 := hr
  rcases hr.2 with ⟨rfl, hz⟩ | ⟨g, cap, cur, rfl, hg, hh, h1, h2, h3, h4⟩
  · obtain rfl := List.length_eq_zero_iff.1 hz
    exact ActsV.nil W
  · refine ⟨some ⟨g, 0, none⟩, cap, M, by simp, rfl, fun e => ?_, by simpa using h1, hn, fun j u hu => ⟨g, 0, rfl, ?_⟩⟩
    · have := h0 e; cases this
    · have hj := (List.getElem?_eq_some_iff.1 hu).1
      rw [Nat.zero_add, hr0.cellAt j (by rw [← hr.1]; exact hj), hu]
theorem OwnA.form {W : World} {B : Nat} {E : TypeId} {v : Value} {L : List Ac} (h : OwnA W B E v L) : ∃ A c, v = .slice A L.length c := by
  obtain ⟨M, rfl, hr, hn⟩ := h
  obtain ⟨A, c, rfl⟩ := own_formA hr
  exact ⟨A, c, by simp⟩
/-- A literal of one action is the call's own. -/
theorem OwnA.lit {W : World} {B g : Nat} {E : TypeId} {x : Value × Ac} (hg : B ≤ g) (hh : W.heap[g]? = some (.cells (acCells x).toArray E (0, 0))) (hn : NumsV W x.1 x.2.ps) : OwnA W B E (.slice (some ⟨g, 0, none⟩) 1 1) [x.2] :=
  ⟨[x], rfl, ⟨by simp [flatA, acCells], .inr ⟨g, 1, (acCells x).toArray, rfl, hg, hh, Nat.le_refl _, by unfold maxLen; omega, by simp [acCells], by simp [flatA, acCells]⟩⟩, fun y hy => (by simpa using hy : y = x) ▸ ⟨hn, hn.one⟩⟩
theorem grown_nums {w W : World} {row : Option Nat} {v : Value} {l : List Int} (h : NumsV w v l) (hg : w.grownBy W row) (hr : ∀ k, row = some k → ¬ TyA w k 3) : NumsV W v l := by
  obtain ⟨A, cap, e, hc⟩ := h
  refine ⟨A, cap, e, fun j x hx => ?_⟩
  obtain ⟨b, o, ea, ⟨cs, f, ht⟩, hx⟩ := hc j x hx
  have hb := hg.block b (Array.getElem?_eq_some_iff.1 ht).1 (fun er => hr b er.symm ⟨cs, f, ht⟩)
  exact ⟨b, o, ea, ⟨cs, f, hb.trans ht⟩, (World.cell?_of_block hb).trans hx⟩

theorem TyA.setCell {W : World} {b : Nat} {t : TypeId} (h : TyA W b t) (a : Addr) (v : Value) : TyA (W.setCell a v) b t := by
  obtain ⟨c, fz, h⟩ := h
  unfold World.setCell
  split <;> simp only [TyA, Array.getElem?_setIfInBounds, Array.getElem?_modify]
  all_goals
    split
    · rename_i e
      subst e
      simp_all
    · exact ⟨c, fz, h⟩
theorem TyA.new (w : World) (c : Array Value) (t : TypeId) : TyA (w.alloc (.cells c t)) w.heap.size t := ⟨c, _, heap_alloc_new w _⟩
theorem TyA.drewN {W : World} {b : Nat} {t : TypeId} (h : TyA W b t) (n : Nat) : TyA (W.drewN n) b t := h
theorem grown_setA (w : World) (p : Addr) (v : Value) : w.grownBy (w.setCell p v) (some p.block) := by
  have h2 : (w.setCell p v).heap.size = w.heap.size := by
    unfold World.setCell
    split <;> simp
  exact ⟨by unfold World.setCell; split <;> rfl, by unfold World.setCell; split <;> rfl, by unfold World.setCell; split <;> rfl, by omega, fun k _ hne => Below.heap_setCell w p v k (fun e => hne (by rw [e]))⟩
/-- A store into another block. -/
theorem OwnA.set {W : World} {B : Nat} {E : TypeId} {v : Value} {L : List Ac} (h : OwnA W B E v L) {p : Addr} {T : TypeId} (hp : TyA W p.block T) (h1 : T ≠ 3) (h2 : T ≠ E) (u : Value) : OwnA (W.setCell p u) B E v L := by
  obtain ⟨M, em, hr, hn⟩ := h
  have hg := grown_setA W p u
  have hno : ∀ k, some p.block = some k → ¬ TyA W k 3 := by
    rintro k e ⟨cs, f, hk⟩
    injection e with e
    subst e
    obtain ⟨c, fz, hh⟩ := hp
    rw [hh] at hk
    injection hk with hk
    injection hk with _ hk _
    exact h1 hk
  refine ⟨M, em, ⟨hr.1, ?_⟩, fun x hx => ⟨grown_nums (hn x hx).1 hg hno, (hn x hx).2⟩⟩
  rcases hr.2 with h0 | ⟨g, cap, cur, rfl, hg2, hh, r⟩
  · exact .inl h0
  · refine .inr ⟨g, cap, cur, rfl, hg2, (hg.block g (Array.getElem?_eq_some_iff.1 hh).1 (fun e => ?_)).trans hh, r⟩
    injection e with e
    subst e
    obtain ⟨c, fz, hp⟩ := hp
    rw [hh] at hp
    injection hp with hp
    injection hp with _ hp _
    exact h2 hp.symm

/-- What append of some actions to one's own does. -/
theorem acts_run (W : World) (B : Nat) (hB : B ≤ W.heap.size) (T E ty : TypeId) (z : Value) (hT : Tryd.prog.underlying T = some (.slice E)) (hE : E ≠ 3) (hi0 : (Tryd.prog.info? E).map (fun i => (i.zero, i.size, i.bytes)) = some (some z, 4, 48)) (hz : z.cells.size = 4)
    (v nv : Value) (L N : List Ac) (hown : OwnA W B E v L) (hnv : ActsV W nv N) (hlen : L.length + N.length ≤ 1000000) :
    ∃ v' w', (Builtin.append_ #[T, T] ty #[v, nv]).run Tryd.prog W = .ok v' w' ∧ OwnA w' B E v' (L ++ N) ∧ Below B W w' ∧ (v' = .slice none 0 0 ↔ v = .slice none 0 0 ∧ N = []) := by
  obtain ⟨i0, hi, hz0, hz1, hz2⟩ := info_parts hi0
  obtain ⟨M, rfl, hr, hn⟩ := hown
  obtain ⟨A, cap, M2, rfl, rfl, hA0, hcap, hn2, hc⟩ := hnv
  by_cases h0 : M2 = []
  · subst h0
    obtain ⟨rfl, rfl⟩ := hA0 rfl
    have hrun := run_append_owned_none (P := Tryd.prog) (w := W) B T ty E i0 4 hT hi v M.length (flatA M) hr
    exact ⟨v, W, by simpa using hrun, ⟨M, by simp, hr, hn⟩, Below.refl _ _, by simp⟩
  · have hpos : 0 < M2.length := List.length_pos_iff.2 h0
    have hz9 : 0 < (flatA M2).length := by rw [flatA_len]; omega
    obtain ⟨b, o, rfl, _⟩ := hc 0 _ (List.getElem?_eq_getElem hz9)
    obtain ⟨v', w', hrun, r1, r2, r3⟩ := run_append_own (P := Tryd.prog) W B T ty E i0 z 4 48 hT hi hz0 hz1 hz2 hz (by decide) v M.length (flatA M) hr ⟨b, o, none⟩ M2.length cap (flatA M2) (flatA_len M2) (fun j u hu => by
        obtain ⟨b', o', e, hx⟩ := hc j u hu
        injection e with e; injection e with e e'; subst e e'
        rw [Addr.add_lit]; exact hx) (fun u hu => by
        unfold flatA at hu
        rw [List.mem_flatMap] at hu
        obtain ⟨x, hx, hu⟩ := hu
        have h1 := (hn2 x hx).2
        simp only [acCells, List.mem_cons, List.not_mem_nil, or_false] at hu
        rcases hu with rfl | rfl | rfl | rfl
        · rfl
        · rfl
        · exact h1
        · rfl) (by unfold maxLen; simp at hlen; omega) (by simp at hlen; omega) hB
    have hblk : ∀ k, v.ownBlock = some k → ¬ TyA W k 3 := by
      intro k hk ⟨cs, f, ht⟩
      rcases hr.2 with ⟨rfl, _⟩ | ⟨g, cap', cur, rfl, hg, hh, _⟩
      · cases hk
      · have e9 : some g = some k := hk
        injection e9 with e9
        subst e9
        rw [hh] at ht
        injection ht with ht
        injection ht with _ ht _
        exact hE ht
    refine ⟨v', w', by simpa using hrun, ⟨M ++ M2, by simp, by rw [flatA_app, List.length_append]; exact r1, fun x hx => ?_⟩, ⟨r2.os, r2.tape, r2.output, r2.size, fun k hk => r2.block k (by omega) (fun e => ?_)⟩, ?_⟩
    · rcases List.mem_append.1 hx with hx | hx
      · exact ⟨grown_nums (hn x hx).1 r2 hblk, (hn x hx).2⟩
      · exact ⟨grown_nums (hn2 x hx).1 r2 hblk, (hn2 x hx).2⟩
    · have := hr.lt k e.symm
      omega
    · rw [r3]
      constructor
      · rintro ⟨rfl, h⟩; exact ⟨rfl, by simp at h; exact absurd h h0⟩
      · rintro ⟨rfl, h⟩; simp at h; exact absurd h h0
/-- At the operation. -/
theorem wpList_acts {ops : Array Oper} {rest : List Oper} {o : Oper} {a : Act} {Q : Exit → Act → World → Prop} (W : World) (hgd : o.guard = none) (s x : Operand) (T E : TypeId) (z : Value)
    (hop : o.op = Op.call { callee := Callee.builtin Builtin.append, args := #[s, x], argTypes := #[T, T] })
    (B : Nat) (hB : B ≤ W.heap.size) (hT : Tryd.prog.underlying T = some (.slice E)) (hE : E ≠ 3) (hi0 : (Tryd.prog.info? E).map (fun i => (i.zero, i.size, i.bytes)) = some (some z, 4, 48)) (hz : z.cells.size = 4)
    (v nv : Value) (L N : List Ac) (hs : a.eval s = v) (hx : a.eval x = nv) (hown : OwnA W B E v L) (hnv : ActsV W nv N) (hlen : L.length + N.length ≤ 1000000)
    (hK : ∀ v' w', OwnA w' B E v' (L ++ N) → Below B W w' → (v' = .slice none 0 0 ↔ v = .slice none 0 0 ∧ N = []) → wpList Tryd.prog ops Q rest (a.put o.dst v') w') :
    wpList Tryd.prog ops Q (o :: rest) a W := by
  refine wpList_plain hgd fun K hK' => ?_
  obtain ⟨v', w', hrun, h1, h2, h3⟩ := acts_run W B hB T E o.type z hT hE hi0 hz v nv L N hown hnv hlen
  unfold Oper.wp
  simp [execOp, hop, resolve, invoke, builtin, hs, hx, hrun, Result.andThen]
  exact hK' _ _ (hK v' w' h1 h2 h3)
/-- As one step of a region that draws its order. -/
theorem step_acts {ops : Array Oper} {o : Oper} {a : Act} {W : World} {K : Act → World → Prop} {Q : Exit → Act → World → Prop} {X : Prop} (hgd : o.guard = none) (s x : Operand) (T E : TypeId) (z : Value)
    (hop : o.op = Op.call { callee := Callee.builtin Builtin.append, args := #[s, x], argTypes := #[T, T] })
    (B : Nat) (hB : B ≤ W.heap.size) (hT : Tryd.prog.underlying T = some (.slice E)) (hE : E ≠ 3) (hi0 : (Tryd.prog.info? E).map (fun i => (i.zero, i.size, i.bytes)) = some (some z, 4, 48)) (hz : z.cells.size = 4)
    (v nv : Value) (L N : List Ac) (hs : a.eval s = v) (hx : a.eval x = nv) (hown : OwnA W B E v L) (hnv : ActsV W nv N) (hlen : L.length + N.length ≤ 1000000)
    (hK : ∀ v' w', OwnA w' B E v' (L ++ N) → Below B W w' → (v' = .slice none 0 0 ↔ v = .slice none 0 0 ∧ N = []) → K (a.put o.dst v') w') :
    if Region.wanted o (yielded ops a.tmps) = true then Oper.wp Tryd.prog o a W K Q else X := by
  have hw : Region.wanted o (yielded ops a.tmps) = true := by simp [Region.wanted, hgd]
  rw [if_pos hw]
  obtain ⟨v', w', hrun, h1, h2, h3⟩ := acts_run W B hB T E o.type z hT hE hi0 hz v nv L N hown hnv hlen
  unfold Oper.wp
  simp [execOp, hop, resolve, invoke, builtin, hs, hx, hrun, Result.andThen]
  exact hK v' w' h1 h2 h3

/-- A parser's state in a block of its own. -/
def StBox (W : World) (b : Nat) (x y : Value) : Prop :=
  W.cell? ⟨b, 0, none⟩ = some x ∧ W.cell? ⟨b, 1, none⟩ = some y ∧ W.frozen? ⟨b, 0, none⟩ = false ∧ W.frozen? ⟨b, 1, none⟩ = false ∧ TyA W b 24
theorem StBox.lt {W : World} {b : Nat} {x y : Value} (h : StBox W b x y) : b < W.heap.size := World.block_lt_of_cell? _ _ h.1
theorem StBox.below {w W : World} {b : Nat} {x y : Value} (h : StBox w b x y) (hb : Below w.heap.size w W) : StBox W b x y :=
  ⟨(hb.cell (p := ⟨b, 0, none⟩) h.lt).trans h.1, (hb.cell (p := ⟨b, 1, none⟩) h.lt).trans h.2.1, (hb.frozen (p := ⟨b, 0, none⟩) h.lt).trans h.2.2.1, (hb.frozen (p := ⟨b, 1, none⟩) h.lt).trans h.2.2.2.1, h.2.2.2.2.below hb⟩
theorem StBox.under {B : Nat} {w W : World} {b : Nat} {x y : Value} (h : StBox w b x y) (hb : Below B w W) (hl : b < B) : StBox W b x y := by
  obtain ⟨c, f, ht⟩ := h.2.2.2.2
  exact ⟨(hb.cell (p := ⟨b, 0, none⟩) hl).trans h.1, (hb.cell (p := ⟨b, 1, none⟩) hl).trans h.2.1, (hb.frozen (p := ⟨b, 0, none⟩) hl).trans h.2.2.1, (hb.frozen (p := ⟨b, 1, none⟩) hl).trans h.2.2.2.1, c, f, (hb.block b hl).trans ht⟩
theorem StBox.new (w : World) (x y : Value) : StBox (w.alloc (.cells #[x, y] 24)) w.heap.size x y := by
  refine ⟨by simp, by simp, by simp, by simp, TyA.new _ _ _⟩
theorem StBox.set {W : World} {b : Nat} {x y : Value} (h : StBox W b x y) (u v : Value) : StBox ((W.setCell ⟨b, 0, none⟩ u).setCell ⟨b, 1, none⟩ v) b u v := by
  obtain ⟨h0, h1, f0, f1, ht⟩ := h
  have e1 : (W.setCell ⟨b, 0, none⟩ u).cell? ⟨b, 1, none⟩ = some y := by simp [go_sem, h1]
  refine ⟨?_, World.cell?_setCell_same' _ _ _ (by rw [e1]; rfl), by simpa [go_sem] using f0, by simpa [go_sem] using f1, (ht.setCell _ _).setCell _ _⟩
  have e0 : (W.setCell ⟨b, 0, none⟩ u).cell? ⟨b, 0, none⟩ = some u := World.cell?_setCell_same' _ _ _ (by rw [h0]; rfl)
  simp [go_sem, e0]
/-- A store into another block. -/
theorem StBox.far {W : World} {b : Nat} {x y : Value} (h : StBox W b x y) (p : Addr) (hp : p.block ≠ b) (v : Value) : StBox (W.setCell p v) b x y := by
  obtain ⟨h0, h1, f0, f1, ht⟩ := h
  exact ⟨by rw [World.cell?_setCell_far _ _ _ _ hp, h0], by rw [World.cell?_setCell_far _ _ _ _ hp, h1], by simpa using f0, by simpa using f1, ht.setCell _ _⟩

theorem info_acP : (Tryd.prog.info? 34).map (fun i => (i.zero, i.size, i.bytes)) = some (some (.agg #[.int .i64 0, .int .i32 0, .slice none 0 0, .int .u8 0]), 4, 48) := by kernel_rfl
theorem info_acR : (Tryd.prog.info? 35).map (fun i => (i.zero, i.size, i.bytes)) = some (some (.agg #[.int .i64 0, .int .i32 0, .slice none 0 0, .int .u8 0]), 4, 48) := by kernel_rfl
end Go.Proofs.YtmheleifjpfciaaDoor
