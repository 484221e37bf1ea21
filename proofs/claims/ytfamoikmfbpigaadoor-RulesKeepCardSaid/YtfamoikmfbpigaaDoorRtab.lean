/- The table of the rules; contracts of rules.find and rules.Kind. -/
import Derived.Test.YtfamoikmfbpigaaDoorHide
import Derived.Test.YtfamoikmfbpigaaDoorRows
import Derived.Test.YtfamoikmfbpigaaDoorShelf
import Derived.WalkKit
import Derived.WalkSpells
import Derived.WalkLawsBesides
import Derived.Handy
namespace Go.Proofs.YtfamoikmfbpigaaDoor
open Go.RowKit

/-- A rule: its text, the kind of what it takes, and what it does. -/
abbrev Rule := List UInt8 × Int × Int
def ruleOf : DataW Unit → Rule
  | .agg [.lit (.string b), .lit (.int _ k), .lit (.int _ t)] => (b, k, t)
  | _ => ([], 0, 0)
def rowOf : DataW Unit → List Rule
  | .slice es _ => es.map ruleOf
  | _ => []
def tblOf : DataW Unit → List (List Rule)
  | .agg rs => rs.map rowOf
  | _ => []
def tbl : List (List Rule) := tblOf Rows.laid_limner_rules_table
def rowN (m : Nat) : List Rule := tbl[m]?.getD []
def ruleN (m n : Nat) : Rule := (rowN m)[n]?.getD ([], 0, 0)
theorem row_len (m : Nat) (h : m < 3) : (rowN m).length ≤ 10 := by
  match m, h with
  | 0, _ => decide +kernel
  | 1, _ => decide +kernel
  | 2, _ => decide +kernel

/-- The table, in its blocks. -/
def RTab (w : World) : Prop := ∀ m, m < 3 → ∃ b o c, w.cell? ⟨0, m, none⟩ = some (.slice (some ⟨b, o, none⟩) (rowN m).length c) ∧ ∀ j, j < (rowN m).length →
  w.cell? ⟨b, o + j * 3, none⟩ = some (.string ⟨(ruleN m j).1.toArray⟩) ∧ w.cell? ⟨b, o + j * 3 + 1, none⟩ = some (.int .i64 (ruleN m j).2.1) ∧ w.cell? ⟨b, o + j * 3 + 2, none⟩ = some (.int .i64 (ruleN m j).2.2)
theorem RTab.below {w W : World} (h : RTab w) (hb : Below w.heap.size w W) : RTab W := fun m hm => by
  obtain ⟨b, o, c, h1, h2⟩ := h m hm
  have up : ∀ p v, w.cell? p = some v → p.spot = none → W.cell? p = some v := fun p v hc _ => (hb.cell (World.block_lt_of_cell? _ _ hc)).trans hc
  exact ⟨b, o, c, up _ _ h1 rfl, fun j hj => ⟨up _ _ (h2 j hj).1 rfl, up _ _ (h2 j hj).2.1 rfl, up _ _ (h2 j hj).2.2 rfl⟩⟩

set_option maxHeartbeats 400000 in
theorem find_ok (m j : Nat) (w : World) (hm : m < 3) (hj : j < (rowN m).length) (hT : RTab w) :
    Calls Tryd.prog 36 #[.int .i64 m, .int .i64 j] w fun e w' => e = .returned (.tuple #[.agg #[.string ⟨(ruleN m j).1.toArray⟩, .int .i64 (ruleN m j).2.1, .int .i64 (ruleN m j).2.2], .bool true]) ∧ Below w.heap.size w w' := by
  obtain ⟨b, o, c, h0, h⟩ := hT m hm
  obtain ⟨h1, h2, h3⟩ := h j hj
  have hl := row_len m hm
  generalize (rowN m).length = l at *
  generalize (ruleN m j).2.1 = k at *
  generalize (ruleN m j).2.2 = t at *
  generalize (⟨(ruleN m j).1.toArray⟩ : ByteArray) = s at *
  have i1 : (m : Int) < 3 := by omega
  have i2 : (j : Int) < (l : Int) := by omega
  have up : ∀ (x : Obj) (p : Addr) (v : Value), w.cell? p = some v → (w.alloc x).cell? p = some v := fun x p v hc => (((Below.refl w.heap.size w).alloc (Nat.le_refl _) x).cell (World.block_lt_of_cell? _ _ hc)).trans hc
  have a0 := fun x => up x _ _ h0
  have a1 := fun x => up x _ _ h1
  have a2 := fun x => up x _ _ h2
  have a3 := fun x => up x _ _ h3
  clear h hT up h0 h1 h2 h3
  go_enter Tryd.func36, Tryd.ntmps36
  go_wp2
  go_returns
  exact ⟨rfl, by go_grown⟩

set_option maxHeartbeats 400000 in
theorem find_out (m n : Int) (w : World) (h : m < 0 ∨ 3 ≤ m) :
    Calls Tryd.prog 36 #[.int .i64 m, .int .i64 n] w fun e w' => e = .returned (.tuple #[.agg #[.string ⟨#[]⟩, .int .i64 0, .int .i64 0], .bool false]) ∧ Below w.heap.size w w' := by
  by_cases h0 : m < 0
  all_goals
    go_enter Tryd.func36, Tryd.ntmps36
    go_wp2
    go_returns
    exact ⟨rfl, by go_grown⟩

set_option maxHeartbeats 400000 in
theorem kind_ok (m j : Nat) (w : World) (hm : m < 3) (hj : j < (rowN m).length) (hT : RTab w) :
    Calls Tryd.prog 22 #[.int .i64 m, .int .i64 j] w fun e w' => e = .returned (.int .i64 (ruleN m j).2.1) ∧ Below w.heap.size w w' := by
  have HT := hide hT
  clear hT
  go_enter Tryd.func22, Tryd.ntmps22
  go_wp2_with (go_at_call 36; refine (find_ok m j _ hm hj HT.out).mono ?_; rintro e w1 ⟨rfl, hb1⟩; have hs1 := hb1.size)
  go_ret
  exact ⟨rfl, by go_grown⟩
set_option maxHeartbeats 400000 in
theorem kind_out (m n : Int) (w : World) (h : m < 0 ∨ 3 ≤ m) :
    Calls Tryd.prog 22 #[.int .i64 m, .int .i64 n] w fun e w' => e = .returned (.int .i64 0) ∧ Below w.heap.size w w' := by
  go_enter Tryd.func22, Tryd.ntmps22
  go_wp2_with (go_at_call 36; refine (find_out m n _ h).mono ?_; rintro e w1 ⟨rfl, hb1⟩; have hs1 := hb1.size)
  go_ret
  exact ⟨rfl, by go_grown⟩

/-- The state behind a rule that does t. -/
def aftS (m d t : Int) : Int × Int := if t = 0 then (m, d) else if t = 1 then (1, 0) else if t = 3 then (2, min (max d 0) 16383 + 1) else if t = 4 ∧ 1 < d then (m, d - 1) else (0, 0)
theorem ret_st {a b c d : Int} (h : (a, b) = (c, d)) : Ending.returned (.agg #[.int .i64 a, .int .i64 b]) = .returned (.agg #[.int .i64 c, .int .i64 d]) := by
  rw [(Prod.mk.inj h).1, (Prod.mk.inj h).2]

theorem cell_same {w : World} {a : Addr} {v : Value} (h : (w.cell? a).isSome = true) : (w.setCell a v).cell? a = some v := by
  obtain ⟨u, hu⟩ := Option.isSome_iff_exists.1 h
  exact World.cell?_setCell_same _ _ _ hu
attribute [local go_sem] cell_same
theorem two_cells {w w1 : World} {u v p q : Value} {t t' : TypeId} (hb : Below ((w.alloc (.cells #[u, v] t)).alloc (.cells #[p, q] t')).heap.size ((w.alloc (.cells #[u, v] t)).alloc (.cells #[p, q] t')) w1) :
    (∀ x, (w1.alloc x).cell? ⟨w.heap.size, 0, none⟩ = some u) ∧ (∀ x, (w1.alloc x).cell? ⟨w.heap.size, 1, none⟩ = some v) ∧ (∀ x, (w1.alloc x).cell? ⟨w.heap.size + 1, 0, none⟩ = some p) ∧ (∀ x, (w1.alloc x).cell? ⟨w.heap.size + 1, 1, none⟩ = some q) ∧ w.heap.size + 2 ≤ w1.heap.size ∧ Below w.heap.size w w1 ∧
    (∀ x, (w1.alloc x).frozen? ⟨w.heap.size, 1, none⟩ = false) ∧ (∀ x, (w1.alloc x).frozen? ⟨w.heap.size + 1, 0, none⟩ = false) ∧ (∀ x, (w1.alloc x).frozen? ⟨w.heap.size + 1, 1, none⟩ = false) := by
  have hs := hb.size
  simp only [World.size_alloc] at hs
  have up : ∀ (x : Obj) (a : Addr) (y : Value), ((w.alloc (.cells #[u, v] t)).alloc (.cells #[p, q] t')).cell? a = some y → (w1.alloc x).cell? a = some y := fun x a y hc =>
    have h1 := (hb.cell (World.block_lt_of_cell? _ _ hc)).trans hc
    (((Below.refl w1.heap.size w1).alloc (Nat.le_refl _) x).cell (World.block_lt_of_cell? _ _ h1)).trans h1
  refine ⟨fun x => up x _ _ (by simp), fun x => up x _ _ (by simp), fun x => up x _ _ (by simp), fun x => up x _ _ (by simp), by omega, (((Below.refl w.heap.size w).alloc (Nat.le_refl _) _).alloc (by simp) _).trans (hb.mono (by simp; omega)), ?_, ?_, ?_⟩
  all_goals
    intro x
    rw [((Below.refl w1.heap.size w1).alloc (Nat.le_refl _) x).frozen (by dsimp only; omega), hb.frozen (by simp only [World.size_alloc]; omega), frozen?_alloc_cells, frozen?_alloc_cells]
    simp [World.frozen?]

set_option maxHeartbeats 1000000 in
theorem after_any (m j : Nat) (d : Int) (w : World) (hm : m < 3) (hj : j < (rowN m).length) (hd0 : -9223372036854775808 ≤ d) (hd1 : d ≤ 9223372036854775807) (hT : RTab w) :
    Calls Tryd.prog 23 #[.agg #[.int .i64 m, .int .i64 d], .int .i64 j] w fun e w' => e = .returned (.agg #[.int .i64 (aftS m d (ruleN m j).2.2).1, .int .i64 (aftS m d (ruleN m j).2.2).2]) ∧ Below w.heap.size w w' := by
  have HT := hide hT
  clear hT
  have F := fun W h => find_ok m j W hm hj h
  obtain ⟨t, ht⟩ : ∃ t, (ruleN m j).2.2 = t := ⟨_, rfl⟩
  rw [ht] at F ⊢
  generalize (⟨(ruleN m j).1.toArray⟩ : ByteArray) = s at F
  generalize (ruleN m j).2.1 = k at F
  have HF := hide F
  clear F ht hj
  have cases : t = 0 ∨ t = 1 ∨ t = 3 ∨ (t = 4 ∧ 1 < d) ∨ (t = 4 ∧ ¬ 1 < d) ∨ (¬ t = 0 ∧ ¬ t = 1 ∧ ¬ t = 3 ∧ ¬ t = 4) := by omega
  rcases cases with rfl | rfl | rfl | ⟨rfl, h1⟩ | ⟨rfl, h1⟩ | ⟨h0, h1, h3, h4⟩
  all_goals
    go_enter Tryd.func23, Tryd.ntmps23
    go_wp2_with (go_at_call 36; refine (HF.out _ (HT.out.below ((Below.refl _ _).alloc (Nat.le_refl _) _ |>.alloc (by simp) _))).mono ?_; rintro e w1 ⟨rfl, hb1⟩; obtain ⟨c0, c1, c2, c3, hsz, hb, f1, f2, f3⟩ := two_cells hb1; clear hb1)
    (try simp only [Exit.inBlock, Exit.then])
    refine bodyPost_ret (by simp [results, Tryd.results23, go_sem, cell_same, c0, c1, c2, c3]; try rfl) rfl ?_
    refine ⟨ret_st ?_, by go_grown⟩
    first | (simp [aftS]; done) | (simp [aftS, h1]; done) | (simp [aftS, show ¬ (1 < d) by omega]; done) | (simp [aftS, h0, h1, h3, h4]; done)
end Go.Proofs.YtfamoikmfbpigaaDoor
