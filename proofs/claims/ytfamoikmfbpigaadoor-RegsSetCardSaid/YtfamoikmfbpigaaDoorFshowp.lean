/- A node as a text. Plain. -/
import Derived.Test.YtfamoikmfbpigaaDoorFrset
import Derived.Test.YtfamoikmfbpigaaDoorFrmay
namespace Go.Proofs.YtfamoikmfbpigaaDoor
open Go.RowKit

def kdN : Nd → Int
  | .mk k _ _ => k
def wrapB (of : Int) (x : Nd) : Bool := kdN x == 3 || (kdN x == 2 && of != 3)
def kidE (of : Int) (x : Nd) (t : List UInt8) : List UInt8 := if wrapB of x = true then 40 :: (t ++ [41]) else t
mutual
/-- A node, as it is shown. -/
def showE : Nd → List UInt8
  | .mk k S L => if k = 1 then spansE S else if k = 2 then (kidsE k L).flatten else if k = 3 then Go.Lib.join (kidsE k L) [124] else if k = 4 then (kidsE k L).flatten ++ [42] else if k = 5 then (kidsE k L).flatten ++ [43] else if k = 6 then (kidsE k L).flatten ++ [63] else [40, 41]
def kidsE (of : Int) : List Nd → List (List UInt8)
  | [] => []
  | x :: l => kidE of x (showE x) :: kidsE of l
end
theorem kidsE_map (of : Int) : ∀ L : List Nd, kidsE of L = L.map fun x => kidE of x (showE x)
  | [] => rfl
  | x :: l => by rw [kidsE, kidsE_map of l]; rfl
theorem kidE_len (of : Int) (x : Nd) (t : List UInt8) : (kidE of x t).length ≤ t.length + 2 := by
  unfold kidE
  split <;> simp
theorem spansE_len (S : List Nat) : (spansE S).length ≤ 2310 := by
  unfold spansE
  have h := flat_len (scR S 0)
  have key : ∀ (f b : Nat), (scanR S f b).length ≤ f := by
    intro f
    induction f with
    | zero => intro b; simp [scanR]
    | succ f ih =>
      intro b
      rw [scanR]
      repeat' split
      · have := ih (enR S b + 1); simp; omega
      · have := ih (b + 1); omega
      · simp
  have h2 : (scR S 0).length ≤ 256 := key _ _
  repeat' split
  · decide
  · omega
  · simp only [List.length_cons, List.length_append, List.length_nil]; omega
theorem flat_le : ∀ l : List (List UInt8), l.flatten.length ≤ (l.map fun x => x.length + 1).sum
  | [] => by simp
  | x :: l => by
    have := flat_le l
    rw [List.flatten_cons, List.length_append, List.map_cons, List.sum_cons]; omega
theorem join_len (sep : List UInt8) : ∀ l : List (List UInt8), (Go.Lib.join l sep).length ≤ (l.map fun x => x.length + sep.length).sum
  | [] => by simp [Go.Lib.join_nil]
  | x :: l => by
    rw [Go.Lib.join_cons, List.length_append]
    have : (Go.Lib.joinTail sep l).length = (l.map fun x => x.length + sep.length).sum := by
      unfold Go.Lib.joinTail
      rw [List.length_flatten, List.map_map]
      congr 1
      apply List.map_congr_left
      intro y _
      simp; omega
    simp; omega
mutual
theorem show_len : ∀ n : Nd, (showE n).length + 3 ≤ 2400 * szN n
  | .mk k S L => by
    have h1 := kids_len k L
    have h2 := spansE_len S
    rw [showE, szN]
    have h3 := flat_le (kidsE k L)
    have h4 : (Go.Lib.join (kidsE k L) [124]).length ≤ ((kidsE k L).map fun x => x.length + 1).sum := join_len [124] (kidsE k L)
    repeat' split
    all_goals (try simp only [List.length_append, List.length_cons, List.length_nil]); omega
theorem kids_len (of : Int) : ∀ L : List Nd, ((kidsE of L).map fun x => x.length + 1).sum ≤ 2400 * szL L
  | [] => by simp [kidsE, szL]
  | x :: l => by
    have h1 := show_len x
    have h2 := kids_len of l
    have h3 := kidE_len of x (showE x)
    rw [kidsE, szL]
    simp only [List.map_cons, List.sum_cons, List.length_cons]
    omega
end
end Go.Proofs.YtfamoikmfbpigaaDoor
