/- Plain facts on how many cells runes take. No program in sight. -/
import Derived.Lib.Strings
namespace Go.Proofs.YtiilgeinkocanaaDoor

def hid : List (Int × Int) := [(0, 31), (127, 159), (768, 879), (8203, 8207), (8232, 8238), (55296, 57343), (65024, 65039), (65279, 65279)]
def wid : List (Int × Int) := [(4352, 4447), (11904, 12350), (12353, 13311), (13312, 19903), (19968, 40959), (40960, 42191), (44032, 55203), (63744, 64255), (65072, 65135), (65281, 65376), (65504, 65510), (127744, 128591), (129280, 129535), (131072, 262141)]
def hid2 : List (Int × Int) := [(127, 159), (768, 879), (8203, 8207), (8232, 8238), (65024, 65039), (65279, 65279)]

/-- Is r in one of the runs? -/
def among (l : List (Int × Int)) (r : Int) : Bool := l.any fun p => decide (p.1 ≤ r) && decide (r ≤ p.2)
/-- What the search finds: the first run that ends at r or behind. -/
def place (l : List (Int × Int)) (r : Int) : Nat := (List.range l.length).countP fun i => !decide (r ≤ (l[i]?.getD (0, 0)).2)

theorem place_eq (l : List (Int × Int)) (r : Int) : place l r = l.countP fun p => !decide (r ≤ p.2) := by
  unfold place
  have h : l = (List.range l.length).map fun i => l[i]?.getD (0, 0) := by
    apply List.ext_getElem
    · simp
    · intro i h1 h2
      simp [h1]
  conv => rhs; rw [h]
  rw [List.countP_map]
  rfl
/-- The runs rise: each ends ahead of where the next ones begin, and none ends ahead of its beginning. -/
def Rise (l : List (Int × Int)) : Prop := l.Pairwise (fun p q => p.2 < q.1) ∧ ∀ p ∈ l, p.1 ≤ p.2
instance (l : List (Int × Int)) : Decidable (Rise l) := by unfold Rise; infer_instance
theorem rise_hid : Rise hid := by decide
theorem rise_wid : Rise wid := by decide
theorem Rise.tail {p : Int × Int} {l : List (Int × Int)} (h : Rise (p :: l)) : Rise l := ⟨(List.pairwise_cons.1 h.1).2, fun q hq => h.2 q (List.mem_cons_of_mem _ hq)⟩

theorem place_le (l : List (Int × Int)) (r : Int) : place l r ≤ l.length := by rw [place_eq]; exact List.countP_le_length
/-- The test behind the search tells whether r is in one of the runs. -/
theorem among_place : ∀ (l : List (Int × Int)) (r : Int), Rise l → (decide (place l r < l.length) && decide ((l[place l r]?.getD (0, 0)).1 ≤ r)) = among l r
  | [], r, _ => by simp [place_eq, among]
  | p :: l, r, h => by
    have hr := List.pairwise_cons.1 h.1
    by_cases hp : r ≤ p.2
    · have hz : l.countP (fun q => !decide (r ≤ q.2)) = 0 := by
        rw [List.countP_eq_zero]
        intro q hq
        have := hr.1 q hq
        have := h.2 q (List.mem_cons_of_mem _ hq)
        simp; omega
      have e : place (p :: l) r = 0 := by rw [place_eq, List.countP_cons, hz]; simp [hp]
      have hn : l.any (fun q => decide (q.1 ≤ r) && decide (r ≤ q.2)) = false := by
        rw [List.any_eq_false]
        intro q hq
        have := hr.1 q hq
        simp; omega
      rw [e, among, List.any_cons, hn]
      simp [hp]
    · have e : place (p :: l) r = place l r + 1 := by rw [place_eq, place_eq, List.countP_cons]; simp [hp]
      have ih := among_place l r h.tail
      rw [e]
      have e2 : among (p :: l) r = among l r := by simp [among, hp]
      rw [e2, ← ih]
      simp

/-- How many cells a rune takes. -/
def cells (r : Int) : Int := if r < 0 ∨ 1114111 < r ∨ among hid r = true then 0 else if among wid r = true then 2 else 1
theorem cells_bd (r : Int) : 0 ≤ cells r ∧ cells r ≤ 2 := by unfold cells; (repeat' split) <;> omega
def shown (r : Int) : Int := if cells r = 0 then 65533 else r
theorem place_mono {l : List (Int × Int)} (h : Rise l) (r : Int) : ∀ a b, a ≤ b → b < l.length → decide (r ≤ (l[a]?.getD (0, 0)).2) = true → decide (r ≤ (l[b]?.getD (0, 0)).2) = true := by
  intro a b hab hb ha
  rcases Nat.lt_or_ge a b with hlt | hge
  · have h1 := List.pairwise_iff_getElem.1 h.1 a b (by omega) hb hlt
    have h2 := h.2 l[b] (List.getElem_mem hb)
    simp only [List.getElem?_eq_getElem (show a < l.length by omega), List.getElem?_eq_getElem hb, Option.getD_some, decide_eq_true_eq] at ha ⊢
    omega
  · obtain rfl : a = b := by omega
    exact ha
end Go.Proofs.YtiilgeinkocanaaDoor
