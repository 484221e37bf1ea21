/- A history of states: what is now is the one of number m; the ones ahead of it (the last 100) can be undone, the ones behind it done again. Contracts of Do, Undo, Redo and steps over it. -/
import Derived.Test.YtgpcpfohfoeclaaUundone
namespace Go.Proofs.Ytgpcpfohfoeclaa
open Go.RowKit

/-- The numbers that a slice of bytes holds. -/
def Nums (W : World) (v : Value) (zs : List Int) : Prop :=
  ∃ A cap, v = .slice A zs.length cap ∧ zs.length ≤ maxLen ∧ ∀ j, j < zs.length → ∃ b o, A = some ⟨b, o, none⟩ ∧ W.cell? ⟨b, o + j, none⟩ = some (.int .u8 (zs.getD j 0)) ∧ 0 ≤ zs.getD j 0 ∧ zs.getD j 0 ≤ 255
theorem Nums.below {A W : World} {v : Value} {zs : List Int} (h : Nums A v zs) (hb : Below A.heap.size A W) : Nums W v zs := by
  obtain ⟨a, cap, e, hm, h⟩ := h
  refine ⟨a, cap, e, hm, fun j hj => ?_⟩
  obtain ⟨b, o, ea, hcell, hr⟩ := h j hj
  exact ⟨b, o, ea, (hb.cell (World.block_lt_of_cell? _ _ hcell)).trans hcell, hr⟩

/-- The bytes of the state of number j. -/
def cont (zs : List Int) (j : Nat) : ByteArray := if j = 0 then ⟨#[]⟩ else byteS (zs.getD (j - 1) 0)
def LG (zs : List Int) (L : List (Nat × Int × ByteArray)) : Prop := ∀ (j : Nat) (x : Nat × Int × ByteArray), L[j]? = some x → x.2.1 = (j : Int) ∧ x.2.2 = cont zs j
theorem LG.snoc {zs : List Int} {L : List (Nat × Int × ByteArray)} (h : LG zs L) (x : Nat × Int × ByteArray) (h1 : x.2.1 = (L.length : Int)) (h2 : x.2.2 = cont zs L.length) : LG zs (L ++ [x]) := by
  intro j y hy
  by_cases hj : j < L.length
  · rw [List.getElem?_append_left hj] at hy
    exact h j y hy
  · have hlt := (List.getElem?_eq_some_iff.1 hy).1
    simp only [List.length_append, List.length_cons, List.length_nil] at hlt
    obtain rfl : j = L.length := by omega
    rw [List.getElem?_append_right (Nat.le_refl _), Nat.sub_self] at hy
    obtain rfl : x = y := by simpa using hy
    exact ⟨h1, h2⟩
/-- The state of number m is now, of n that there were. -/
def St (W : World) (B u : Nat) (L : List (Nat × Int × ByteArray)) (n m : Nat) : Prop :=
  ∃ x, L[m]? = some x ∧ Und W B u x ((L.take m).drop (n - 100)) ((L.drop (m + 1)).reverse) 0
theorem St.below {A W : World} {B u : Nat} {L : List (Nat × Int × ByteArray)} {n m : Nat} (h : St A B u L n m) (hb : Below A.heap.size A W) : St W B u L n m := by
  obtain ⟨x, hx, h⟩ := h
  exact ⟨x, hx, h.below hb⟩
theorem take_more {L : List (Nat × Int × ByteArray)} {m : Nat} {x : Nat × Int × ByteArray} (h : L[m]? = some x) : L.take (m + 1) = L.take m ++ [x] := by
  rw [List.take_add_one, h]; rfl
theorem drop_less {L : List (Nat × Int × ByteArray)} {m : Nat} {x : Nat × Int × ByteArray} (h : L[m]? = some x) : L.drop m = x :: L.drop (m + 1) := by
  obtain ⟨hlt, he⟩ := List.getElem?_eq_some_iff.1 h
  rw [List.drop_eq_getElem_cons hlt, he]

theorem st_do (B u : Nat) (L : List (Nat × Int × ByteArray)) (i : Nat) (x : Nat × Int × ByteArray) (grp : Int) (w : World) (h : St w B u L i i) (hB : B ≤ w.heap.size) (hl : L.length = i + 1) (hi : i ≤ 200) (hx : TextAt w (.pointer (some ⟨x.1, 0, none⟩)) (onePiece x.2.2)) (hg : grp ≤ 0) (hg2 : -1000 ≤ grp) :
    Calls Try.prog 10 #[.pointer (some ⟨u, 0, none⟩), .pointer (some ⟨x.1, 0, none⟩), .int .i64 x.2.1, .int .i64 grp] w fun e w' => e = .returned (.bool true) ∧ St w' B u (L ++ [x]) (i + 1) (i + 1) ∧ Kept w w' ∧ Below B w w' := by
  obtain ⟨y, hy, h⟩ := h
  have hlt : ((L.take i).drop (i - 100)).length = i - (i - 100) := by simp; omega
  refine (Do_open B u y x _ _ 0 grp w h hB (by rw [hlt]; omega) hx (by simp [hg]) (by omega) hg2).mono ?_
  rintro e w' ⟨rfl, hu, hk, hb⟩
  refine ⟨rfl, ⟨x, by rw [List.getElem?_append_right (by omega), hl, Nat.sub_self]; rfl, ?_⟩, hk, hb⟩
  have e1 : max grp 0 = 0 := by omega
  have e2 : (L ++ [x]).drop (i + 1 + 1) = [] := List.drop_eq_nil_of_le (by simp; omega)
  have e3 : (L ++ [x]).take (i + 1) = L.take i ++ [y] := by rw [List.take_append_of_le_length (by omega), take_more hy]
  have e4 : (L.take i).drop (i - 100) ++ [y] = (L.take i ++ [y]).drop (i - 100) := by rw [List.drop_append_of_le_length (by simp; omega)]
  rw [e1, hlt, e4, List.drop_drop] at hu
  rw [e2, e3, show i + 1 - 100 = i - 100 + (i - (i - 100) + 1 - 100) by omega]
  exact hu

theorem st_undo (B u : Nat) (L : List (Nat × Int × ByteArray)) (n m : Nat) (w : World) (h : St w B u L n (m + 1)) (hB : B ≤ w.heap.size) (hl : L.length = n + 1) (hn : n ≤ 200) (hm : n - 100 ≤ m) :
    Calls Try.prog 12 #[.pointer (some ⟨u, 0, none⟩)] w fun e w' => ∃ y, L[m]? = some y ∧ e = .returned (.tuple #[.pointer (some ⟨y.1, 0, none⟩), .int .i64 y.2.1, .bool true]) ∧ St w' B u L n m ∧ TextAt w' (.pointer (some ⟨y.1, 0, none⟩)) (onePiece y.2.2) ∧ Kept w w' ∧ Below B w w' := by
  obtain ⟨x, hx, h⟩ := h
  have hlt := (List.getElem?_eq_some_iff.1 hx).1
  obtain ⟨y, hy⟩ : ∃ y, L[m]? = some y := ⟨_, List.getElem?_eq_getElem (by omega)⟩
  rw [take_more hy, List.drop_append_of_le_length (by simp; omega)] at h
  refine (Undo_any B u x y _ _ 0 w h hB (by simp; omega) (by simp; omega)).mono ?_
  rintro e w' ⟨rfl, hu, hk, hb⟩
  have e1 : (L.drop (m + 1 + 1)).reverse ++ [x] = (L.drop (m + 1)).reverse := by rw [drop_less hx, List.reverse_cons]
  rw [e1] at hu
  exact ⟨y, hy, rfl, ⟨y, hy, hu⟩, hu.2.1 y List.mem_cons_self, hk, hb⟩
theorem st_redo (B u : Nat) (L : List (Nat × Int × ByteArray)) (n m : Nat) (w : World) (h : St w B u L n m) (hB : B ≤ w.heap.size) (hl : L.length = n + 1) (hn : n ≤ 200) (hm : n - 100 ≤ m) (hm2 : m < n) :
    Calls Try.prog 15 #[.pointer (some ⟨u, 0, none⟩)] w fun e w' => ∃ y, L[m + 1]? = some y ∧ e = .returned (.tuple #[.pointer (some ⟨y.1, 0, none⟩), .int .i64 y.2.1, .bool true]) ∧ St w' B u L n (m + 1) ∧ TextAt w' (.pointer (some ⟨y.1, 0, none⟩)) (onePiece y.2.2) ∧ Kept w w' ∧ Below B w w' := by
  obtain ⟨x, hx, h⟩ := h
  obtain ⟨y, hy⟩ : ∃ y, L[m + 1]? = some y := ⟨_, List.getElem?_eq_getElem (by omega)⟩
  rw [drop_less hy, List.reverse_cons] at h
  refine (Redo_any B u x y _ _ 0 w h hB (by simp; omega) (by simp; omega)).mono ?_
  rintro e w' ⟨rfl, hu, hk, hb⟩
  have e1 : (L.take m).drop (n - 100) ++ [x] = (L.take (m + 1)).drop (n - 100) := by rw [take_more hx, List.drop_append_of_le_length (by simp; omega)]
  rw [e1] at hu
  exact ⟨y, hy, rfl, ⟨y, hy, hu⟩, hu.2.1 y List.mem_cons_self, hk, hb⟩
theorem st_undo_zero (B u : Nat) (L : List (Nat × Int × ByteArray)) (n : Nat) (w : World) (h : St w B u L n (n - 100)) (hl : L.length = n + 1) :
    Calls Try.prog 12 #[.pointer (some ⟨u, 0, none⟩)] w fun e w' => e = .returned (.tuple #[.pointer none, .int .i64 0, .bool false]) ∧ Below w.heap.size w w' := by
  obtain ⟨x, hx, h⟩ := h
  rw [List.drop_eq_nil_of_le (by simp; omega)] at h
  refine (Undo_zero B u x _ 0 w h).mono ?_
  rintro e w' ⟨rfl, _, hb⟩
  exact ⟨rfl, hb⟩
theorem st_redo_zero (B u : Nat) (L : List (Nat × Int × ByteArray)) (n : Nat) (w : World) (h : St w B u L n n) (hl : L.length = n + 1) :
    Calls Try.prog 15 #[.pointer (some ⟨u, 0, none⟩)] w fun e w' => e = .returned (.tuple #[.pointer none, .int .i64 0, .bool false]) ∧ Below w.heap.size w w' := by
  obtain ⟨x, hx, h⟩ := h
  rw [show L.drop (n + 1) = [] from List.drop_eq_nil_of_le (by omega), List.reverse_nil] at h
  refine (Redo_zero B u x _ 0 w h).mono ?_
  rintro e w' ⟨rfl, _, hb⟩
  exact ⟨rfl, hb⟩
theorem st_steps (B u : Nat) (L : List (Nat × Int × ByteArray)) (n m : Nat) (a b : Int) (w : World) (h : St w B u L n m) (hl : L.length = n + 1) (hm : m ≤ n) (ha : ((m - (n - 100) : Nat) : Int) = a) (hb : ((n - m : Nat) : Int) = b) :
    Calls Try.prog 14 #[.pointer (some ⟨u, 0, none⟩), .int .i64 a, .int .i64 b] w fun e w' => e = .returned (.bool true) ∧ Below w.heap.size w w' := by
  obtain ⟨x, hx, h⟩ := h
  have h9 := steps_und B u x _ _ 0 w h
  have e1 : ((((L.take m).drop (n - 100)).length : Nat) : Int) = a := by rw [← ha]; simp; omega
  have e2 : ((((L.drop (m + 1)).reverse).length : Nat) : Int) = b := by rw [← hb]; simp; omega
  rw [e1, e2] at h9
  exact h9
theorem st_new (B u : Nat) (g : Nat) (zs : List Int) (w : World) (h : Und w B u (g, 0, ⟨#[]⟩) [] [] 0) : St w B u [(g, 0, ⟨#[]⟩)] 0 0 ∧ LG zs [(g, 0, ⟨#[]⟩)] := by
  refine ⟨⟨_, rfl, h⟩, fun j x hx => ?_⟩
  match j, hx with
  | 0, hx => obtain rfl : (g, (0 : Int), (⟨#[]⟩ : ByteArray)) = x := by simpa using hx
             exact ⟨rfl, rfl⟩
end Go.Proofs.Ytgpcpfohfoeclaa
