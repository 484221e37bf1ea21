/- What Put of both sides shares: the frame, the style and the answer in their boxes; a frame whose slice the call made, laid open. -/
import Derived.Test.YtojjdckpbmjjdaaDoorGmend
import Derived.Test.YtojjdckpbmjjdaaDoorGputf
namespace Go.Proofs.YtojjdckpbmjjdaaDoor
open Go.RowKit

/-- A frame is stored in its box. -/
def frSet (W : World) (z : Nat) (a b : Int) (s : Value) (c d : Int) : World := ((((W.setCell ⟨z, 0, none⟩ (.int .i64 a)).setCell ⟨z, 1, none⟩ (.int .i64 b)).setCell ⟨z, 2, none⟩ s).setCell ⟨z, 3, none⟩ (.int .i64 c)).setCell ⟨z, 4, none⟩ (.int .i64 d)
theorem fr_put {W : World} {z : Nat} {a b c d : Int} {s : Value} (h : Blk W z 28 (frCells a b s c d)) (a' b' : Int) (s' : Value) (c' d' : Int) : Blk (frSet W z a' b' s' c' d') z 28 (frCells a' b' s' c' d') :=
  ((((h.set 0 _).set 1 _).set 2 _).set 3 _).set 4 _
theorem fr_far {W : World} {k z : Nat} {t : TypeId} {cs : List Value} (h : Blk W k t cs) (hz : z ≠ k) (a b : Int) (s : Value) (c d : Int) : Blk (frSet W z a b s c d) k t cs :=
  ((((h.far (p := ⟨z, 0, none⟩) hz _).far (p := ⟨z, 1, none⟩) hz _).far (p := ⟨z, 2, none⟩) hz _).far (p := ⟨z, 3, none⟩) hz _).far (p := ⟨z, 4, none⟩) hz _
theorem fr_low {W : World} {B z : Nat} {v : Value} {L : List Cl} (h : OwnC W B v L) (hz : z < B) (a b : Int) (s : Value) (c d : Int) : OwnC (frSet W z a b s c d) B v L :=
  ((((h.low (p := ⟨z, 0, none⟩) hz _).low (p := ⟨z, 1, none⟩) hz _).low (p := ⟨z, 2, none⟩) hz _).low (p := ⟨z, 3, none⟩) hz _).low (p := ⟨z, 4, none⟩) hz _
theorem fr_below {w W : World} {B z : Nat} (h : Below B w W) (hz : B ≤ z) (a b : Int) (s : Value) (c d : Int) : Below B w (frSet W z a b s c d) :=
  ((((h.setCell (p := ⟨z, 0, none⟩) hz _).setCell (p := ⟨z, 1, none⟩) hz _).setCell (p := ⟨z, 2, none⟩) hz _).setCell (p := ⟨z, 3, none⟩) hz _).setCell (p := ⟨z, 4, none⟩) hz _
theorem fr_reads {W : World} {z : Nat} {a b c d : Int} {s : Value} (h : Blk W z 28 (frCells a b s c d)) : W.cell? ⟨z, 0, none⟩ = some (.int .i64 a) ∧ W.cell? ⟨z, 1, none⟩ = some (.int .i64 b) ∧ W.cell? ⟨z, 2, none⟩ = some s ∧ W.cell? ⟨z, 3, none⟩ = some (.int .i64 c) ∧ W.cell? ⟨z, 4, none⟩ = some (.int .i64 d) ∧ ∀ i, W.frozen? ⟨z, i, none⟩ = false :=
  ⟨h.cell (i := 0) rfl, h.cell (i := 1) rfl, h.cell (i := 2) rfl, h.cell (i := 3) rfl, h.cell (i := 4) rfl, fun i => h.frozen i⟩
def styCells (fg : Int) (bo un iv : Bool) : List Value := [.int .i64 fg, .bool bo, .bool un, .bool iv]
theorem sty_reads {W : World} {z : Nat} {fg : Int} {bo un iv : Bool} (h : Blk W z 35 (styCells fg bo un iv)) : W.cell? ⟨z, 0, none⟩ = some (.int .i64 fg) ∧ W.cell? ⟨z, 1, none⟩ = some (.bool bo) ∧ W.cell? ⟨z, 2, none⟩ = some (.bool un) ∧ W.cell? ⟨z, 3, none⟩ = some (.bool iv) :=
  ⟨h.cell (i := 0) rfl, h.cell (i := 1) rfl, h.cell (i := 2) rfl, h.cell (i := 3) rfl⟩
/-- The three boxes. -/
def Bx3 (W : World) (z : Nat) (a b : Int) (s : Value) (c d fg : Int) (bo un iv : Bool) : Prop := Blk W z 28 (frCells a b s c d) ∧ Blk W (z + 1) 35 (styCells fg bo un iv) ∧ Blk W (z + 1 + 1) 28 (frCells 0 0 (.slice none 0 0) 0 0)
theorem bx_new (w : World) (a b : Int) (s : Value) (c d fg : Int) (bo un iv : Bool) : Bx3 (((w.alloc (.cells (frCells a b s c d).toArray 28)).alloc (.cells (styCells fg bo un iv).toArray 35)).alloc (.cells (frCells 0 0 (.slice none 0 0) 0 0).toArray 28)) w.heap.size a b s c d fg bo un iv := by
  have h1 := Blk.new (w.alloc (.cells (frCells a b s c d).toArray 28)) 35 (styCells fg bo un iv)
  have h2 := Blk.new ((w.alloc (.cells (frCells a b s c d).toArray 28)).alloc (.cells (styCells fg bo un iv).toArray 35)) 28 (frCells 0 0 (.slice none 0 0) 0 0)
  rw [World.size_alloc] at h1
  rw [World.size_alloc, World.size_alloc] at h2
  exact ⟨((Blk.new w _ _).alloc _).alloc _, h1.alloc _, h2⟩
theorem Bx3.below {W W' : World} {z : Nat} {a b c d fg : Int} {s : Value} {bo un iv : Bool} (h : Bx3 W z a b s c d fg bo un iv) (hb : Below W.heap.size W W') : Bx3 W' z a b s c d fg bo un iv := ⟨h.1.below hb, h.2.1.below hb, h.2.2.below hb⟩
theorem Blk.grown {W W' : World} {z g : Nat} {t : TypeId} {cs : List Value} (h : Blk W z t cs) (hg : W.grownBy W' (some g)) (hne : z ≠ g) : Blk W' z t cs := (hg.block z h.lt (fun e => hne (Option.some.inj e))).trans h
theorem Bx3.grown {W W' : World} {z g : Nat} {a b c d fg : Int} {s : Value} {bo un iv : Bool} (h : Bx3 W z a b s c d fg bo un iv) (hg : W.grownBy W' (some g)) (hz : z + 1 + 1 < g) : Bx3 W' z a b s c d fg bo un iv := ⟨h.1.grown hg (by omega), h.2.1.grown hg (by omega), h.2.2.grown hg (by omega)⟩
theorem Bx3.put {W : World} {z : Nat} {a b c d fg : Int} {s : Value} {bo un iv : Bool} (h : Bx3 W z a b s c d fg bo un iv) (a' b' : Int) (s' : Value) (c' d' : Int) : Bx3 (frSet W z a' b' s' c' d') z a' b' s' c' d' fg bo un iv :=
  ⟨fr_put h.1 _ _ _ _ _, fr_far h.2.1 (by omega) _ _ _ _ _, fr_far h.2.2 (by omega) _ _ _ _ _⟩
theorem Bx3.reads {W : World} {z : Nat} {a b c d fg : Int} {s : Value} {bo un iv : Bool} (h : Bx3 W z a b s c d fg bo un iv) :
    (W.cell? ⟨z, 0, none⟩ = some (.int .i64 a) ∧ W.cell? ⟨z, 1, none⟩ = some (.int .i64 b) ∧ W.cell? ⟨z, 2, none⟩ = some s ∧ W.cell? ⟨z, 3, none⟩ = some (.int .i64 c) ∧ W.cell? ⟨z, 4, none⟩ = some (.int .i64 d) ∧ ∀ i, W.frozen? ⟨z, i, none⟩ = false) ∧
    (W.cell? ⟨z + 1, 0, none⟩ = some (.int .i64 fg) ∧ W.cell? ⟨z + 1, 1, none⟩ = some (.bool bo) ∧ W.cell? ⟨z + 1, 2, none⟩ = some (.bool un) ∧ W.cell? ⟨z + 1, 3, none⟩ = some (.bool iv)) ∧
    (W.cell? ⟨z + 1 + 1, 0, none⟩ = some (.int .i64 0) ∧ W.cell? ⟨z + 1 + 1, 1, none⟩ = some (.int .i64 0) ∧ W.cell? ⟨z + 1 + 1, 2, none⟩ = some (.slice none 0 0) ∧ W.cell? ⟨z + 1 + 1, 3, none⟩ = some (.int .i64 0) ∧ W.cell? ⟨z + 1 + 1, 4, none⟩ = some (.int .i64 0) ∧ ∀ i, W.frozen? ⟨z + 1 + 1, i, none⟩ = false) :=
  ⟨fr_reads h.1, sty_reads h.2.1, fr_reads h.2.2⟩
theorem FrOwn.open {W : World} {B n : Nat} {v : Value} {a b c d : Int} {cs : List Cl} (h : FrOwn W B v ⟨a, b, cs, c, d⟩) (hn : cs.length = n) (h0 : 0 < n) : ∃ g cap, v = .agg #[.int .i64 a, .int .i64 b, .slice (some ⟨g, 0, none⟩) n cap, .int .i64 c, .int .i64 d] ∧ cap ≤ maxLen ∧ OwnC W B (.slice (some ⟨g, 0, none⟩) n cap) cs ∧ B ≤ g := by
  subst hn
  obtain ⟨A, cap, rfl, h1, h2⟩ := h
  obtain ⟨g, c', e, -, hg⟩ := h2.formN h0
  injection e with e

  subst e
  exact ⟨g, cap, rfl, h1, h2, hg⟩
theorem fr_own {W : World} {B g n cap : Nat} {a b c d : Int} {cs : List Cl} (hn : cs.length = n) (hcap : cap ≤ maxLen) (h : OwnC W B (.slice (some ⟨g, 0, none⟩) n cap) cs) : FrOwn W B (.agg #[.int .i64 a, .int .i64 b, .slice (some ⟨g, 0, none⟩) n cap, .int .i64 c, .int .i64 d]) ⟨a, b, cs, c, d⟩ := by
  subst hn
  exact ⟨_, cap, rfl, hcap, h⟩
theorem FrOwn.mono {W : World} {B C : Nat} {v : Value} {f : Fr} (h : FrOwn W B v f) (hc : C ≤ B) : FrOwn W C v f := by
  obtain ⟨A, cap, e, h1, h2⟩ := h
  exact ⟨A, cap, e, h1, h2.mono hc⟩
theorem fr_nil (W : World) (B : Nat) : FrOwn W B (.agg #[.int .i64 0, .int .i64 0, .slice none 0 0, .int .i64 0, .int .i64 0]) noF := ⟨none, 0, rfl, by unfold maxLen; omega, ⟨rfl, .inl ⟨rfl, rfl⟩⟩⟩
theorem valid_is (f : Fr) (b : Bool) (hx : validF f = b) (v : Value) (w : World) (h : FrAt w v f) (hT : WTabs w) : Calls Tryd.prog 26 #[v] w fun e w' => e = .returned (.bool b) ∧ Below w.heap.size w w' := by
  subst hx; exact valid_any f v w h hT
theorem rvalid_is (f : Fr) (b : Bool) (hx : validF f = b) (v : Value) (w : World) (h : FrAt w v f) : Calls Tryd.prog 27 #[v] w fun e w' => e = .returned (.bool b) ∧ Below w.heap.size w w' := by
  subst hx; exact rvalid_any f v w h
theorem wof_is (r x : Int) (hx : cells r = x) (w : World) (hT : WTabs w) : Calls Tryd.prog 28 #[.int .i32 r] w fun e w' => e = .returned (.int .i64 x) ∧ Below w.heap.size w w' := by
  subst hx; exact wof_any r w hT
theorem style_is (c : Cl) (x : Bool) (hx : styC c = x) (w : World) : Calls Tryd.prog 34 #[.agg #[.int .i64 c.fg, .bool c.bo, .bool c.un, .bool c.iv]] w fun e w' => e = .returned (.bool x) ∧ Below w.heap.size w w' := by
  subst hx; exact style_any c w
theorem wipe_is (g n c B i : Nat) (z : Int) (hz : z = i) (L M : List Cl) (hM : wipeL L i = M) (x : Cl) (w : World) (h : OwnC w B (.slice (some ⟨g, 0, none⟩) n c) L) (hn : L.length = n) (hc : n ≤ 20000) (hT : BTab w) (hB : 0 < B) (hx : L[i]? = some x)
    (h2 : x.w = 2 → i + 1 < n) (h0 : x.w = 0 → 1 ≤ i) :
    Calls Tryd.prog 35 #[.slice (some ⟨g, 0, none⟩) n c, .int .i64 z] w fun e w' => e = .returned (.tuple #[]) ∧ OwnC w' B (.slice (some ⟨g, 0, none⟩) n c) M ∧ w.grownBy w' (some g) := by
  subst hz hM; exact wipe_any g n c B i L x w h hn hc hT hB hx h2 h0
end Go.Proofs.YtojjdckpbmjjdaaDoor
