/- Contract of limnerref01.Put. -/
import Derived.Test.YtiilgeinkocanaaDoorUtf
import Derived.Test.YtiilgeinkocanaaDoorRows
import Derived.WalkKit
import Derived.WalkSpells
import Derived.WalkLawsBesides
namespace Go.Proofs.YtiilgeinkocanaaDoor
open Go.RowKit

theorem hide {p : Prop} (h : p) : Hid p := h
theorem cell_first (w : World) (cs : Array Value) (t : TypeId) (i : Nat) : (w.alloc (.cells cs t)).cell? ⟨w.heap.size, 0 + i, none⟩ = cs[i]? := by
  rw [Nat.zero_add]
  exact cell_of_row _ _ i cs t (0, 0) (heap_alloc_new w _)

theorem conv_bytes (src e dst : TypeId) (hs : Tryd.prog.underlying src = some (.slice e)) (he : Tryd.prog.underlying e = some (.int .u8)) (hd : Tryd.prog.underlying dst = some .string) (w : World) (n : Nat) (xs : List Int) (hl : xs.length = n) (cs : Array Value) (hcs : cs = (xs.map (Value.int .u8)).toArray) :
    (convert src dst (.slice (some ⟨w.heap.size, 0, none⟩) n n)).run Tryd.prog (w.alloc (.cells cs e)) = .ok (.string (strOfNums xs)) (w.alloc (.cells cs e)) := by
  refine run_convert_bytes_arg (P := Tryd.prog) _ src e hs he w.heap.size 0 n n xs hl (fun i hi => ?_) dst hd
  rw [cell_first, hcs]
  simp [List.getD, List.getElem?_eq_getElem (show i < xs.length by omega)]

theorem conv_1 (w : World) (a : Int) : (convert 34 9 (.slice (some ⟨w.heap.size, 0, none⟩) 1 1)).run Tryd.prog (w.alloc (.cells #[.int .u8 a] 5)) = .ok (.string (strOfNums [a])) (w.alloc (.cells #[.int .u8 a] 5)) :=
  conv_bytes 34 5 9 Tryd.underlying34 Tryd.underlying5 Tryd.underlying9 w 1 [a] rfl _ rfl
theorem conv_2 (w : World) (a b : Int) : (convert 34 9 (.slice (some ⟨w.heap.size, 0, none⟩) 2 2)).run Tryd.prog (w.alloc (.cells #[.int .u8 a, .int .u8 b] 5)) = .ok (.string (strOfNums [a, b])) (w.alloc (.cells #[.int .u8 a, .int .u8 b] 5)) :=
  conv_bytes 34 5 9 Tryd.underlying34 Tryd.underlying5 Tryd.underlying9 w 2 [a, b] rfl _ rfl
theorem conv_3 (w : World) (a b c : Int) : (convert 34 9 (.slice (some ⟨w.heap.size, 0, none⟩) 3 3)).run Tryd.prog (w.alloc (.cells #[.int .u8 a, .int .u8 b, .int .u8 c] 5)) = .ok (.string (strOfNums [a, b, c])) (w.alloc (.cells #[.int .u8 a, .int .u8 b, .int .u8 c] 5)) :=
  conv_bytes 34 5 9 Tryd.underlying34 Tryd.underlying5 Tryd.underlying9 w 3 [a, b, c] rfl _ rfl
theorem conv_4 (w : World) (a b c d : Int) : (convert 34 9 (.slice (some ⟨w.heap.size, 0, none⟩) 4 4)).run Tryd.prog (w.alloc (.cells #[.int .u8 a, .int .u8 b, .int .u8 c, .int .u8 d] 5)) = .ok (.string (strOfNums [a, b, c, d])) (w.alloc (.cells #[.int .u8 a, .int .u8 b, .int .u8 c, .int .u8 d] 5)) :=
  conv_bytes 34 5 9 Tryd.underlying34 Tryd.underlying5 Tryd.underlying9 w 4 [a, b, c, d] rfl _ rfl

theorem ret_str {a b : ByteArray} (h : a = b) : Ending.returned (.string a) = .returned (.string b) := by rw [h]

set_option maxHeartbeats 400000 in
theorem put_any (r : Int) (w : World) : Calls Tryd.prog 57 #[.int .i32 r] w fun e w' => e = .returned (.string (putS r)) ∧ Below w.heap.size w w' := by
  have c1 := conv_1
  have c2 := conv_2
  have c3 := conv_3
  have c4 := conv_4
  by_cases h0 : r < 0
  · go_enter Tryd.func57, Tryd.ntmps57
    go_wp2
    go_ret
    exact ⟨ret_str (putS_bad (by omega)).symm, Below.refl _ _⟩
  by_cases h1 : 1114111 < r
  · go_enter Tryd.func57, Tryd.ntmps57
    go_wp2
    go_ret
    exact ⟨ret_str (putS_bad (by omega)).symm, Below.refl _ _⟩
  by_cases h2 : r < 128
  · go_enter Tryd.func57, Tryd.ntmps57
    go_wp2
    go_ret
    exact ⟨ret_str (putS_1 (by omega) (by omega)), (Below.refl _ _).alloc (Nat.le_refl _) _⟩
  by_cases h3 : r < 2048
  · go_enter Tryd.func57, Tryd.ntmps57
    go_wp2
    go_ret
    exact ⟨ret_str (putS_2 (by omega) (by omega)), (Below.refl _ _).alloc (Nat.le_refl _) _⟩
  by_cases h4 : r < 55296
  · go_enter Tryd.func57, Tryd.ntmps57
    go_wp2
    go_ret
    exact ⟨ret_str (putS_3 (by omega) (by omega) (by omega)), (Below.refl _ _).alloc (Nat.le_refl _) _⟩
  by_cases h5 : r ≤ 57343
  · go_enter Tryd.func57, Tryd.ntmps57
    go_wp2
    go_ret
    exact ⟨ret_str (putS_bad (by omega)).symm, Below.refl _ _⟩
  by_cases h6 : r < 65536
  · go_enter Tryd.func57, Tryd.ntmps57
    go_wp2
    go_ret
    exact ⟨ret_str (putS_3 (by omega) (by omega) (by omega)), (Below.refl _ _).alloc (Nat.le_refl _) _⟩
  · go_enter Tryd.func57, Tryd.ntmps57
    go_wp2
    go_ret
    exact ⟨ret_str (putS_4 (by omega) (by omega)), (Below.refl _ _).alloc (Nat.le_refl _) _⟩
end Go.Proofs.YtiilgeinkocanaaDoor
