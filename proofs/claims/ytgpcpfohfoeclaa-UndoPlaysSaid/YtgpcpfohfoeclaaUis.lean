/- Contracts of limnerlaw05.text, is (where it is so) and bytes, and of undo.New. -/
import Derived.Test.YtgpcpfohfoeclaaUnew
import Derived.Laws.BytesArg
namespace Go.Proofs.Ytgpcpfohfoeclaa
open Go.RowKit

theorem one_total (s : ByteArray) : total (onePiece s) = s.size := by unfold onePiece; split <;> simp [total]; omega
theorem one_len (s : ByteArray) : (onePiece s).length ≤ 1 := by unfold onePiece; split <;> simp

theorem mk_any (s : ByteArray) (w : World) (hs : s.size ≤ 16384) : Calls Try.prog 9 #[.string s] w fun e w' => ∃ p, e = .returned p ∧ TextAt w' p (onePiece s) ∧ Below w.heap.size w w' := by
  have HS := hide hs
  clear hs
  go_enter Try.func9, Try.ntmps9
  go_wp2_with (go_at_call 23; refine (new_any s _ HS.out).mono ?_; rintro e w1 ⟨p, rfl, hp, hb⟩; have HP := hide hp; have HB := hide hb; clear hp hb)
  go_ret
  exact ⟨p, rfl, HP.out, HB.out⟩

set_option maxHeartbeats 400000 in
/-- limnerlaw05.is, where it is so. -/
theorem is_true (p : Value) (c : Int) (s : ByteArray) (w : World) (hs : s.size ≤ 16384) (h : TextAt w p (onePiece s)) :
    Calls Try.prog 13 #[p, .int .i64 c, .string s, .int .i64 c] w fun e w' => e = .returned (.bool true) ∧ Below w.heap.size w w' := by
  have HP := hide h
  have HJ := hide (joined_one s)
  have HZ := hide (show total (onePiece s) ≤ 1048576 by rw [one_total]; omega)
  have HL := hide (show (onePiece s).length ≤ 1048576 by have := one_len s; omega)
  obtain ⟨b, v, rfl, -, -, -, -, -⟩ := h
  clear hs
  go_enter Try.func13, Try.ntmps13
  go_wp2_with (go_at_call 26; refine (str_any _ _ _ HP.out HZ.out HL.out).mono ?_; rw [HJ.out]; rintro e w1 ⟨rfl, hb1⟩)
  go_ret
  exact ⟨rfl, hb1⟩

theorem cell_first (w : World) (cs : Array Value) (t : TypeId) (i : Nat) : (w.alloc (.cells cs t)).cell? ⟨w.heap.size, 0 + i, none⟩ = cs[i]? := by
  rw [Nat.zero_add]
  exact cell_of_row _ _ i cs t (0, 0) (heap_alloc_new w _)

theorem conv_bytes (src e dst : TypeId) (hs : Try.prog.underlying src = some (.slice e)) (he : Try.prog.underlying e = some (.int .u8)) (hd : Try.prog.underlying dst = some .string) (w : World) (n : Nat) (xs : List Int) (hl : xs.length = n) (cs : Array Value) (hcs : cs = (xs.map (Value.int .u8)).toArray) :
    (convert src dst (.slice (some ⟨w.heap.size, 0, none⟩) n n)).run Try.prog (w.alloc (.cells cs e)) = .ok (.string (strOfNums xs)) (w.alloc (.cells cs e)) := by
  refine run_convert_bytes_arg (P := Try.prog) _ src e hs he w.heap.size 0 n n xs hl (fun i hi => ?_) dst hd
  rw [cell_first, hcs]
  simp [List.getD, List.getElem?_eq_getElem (show i < xs.length by omega)]

theorem conv_1 (w : World) (a : Int) : (convert 22 9 (.slice (some ⟨w.heap.size, 0, none⟩) 1 1)).run Try.prog (w.alloc (.cells #[.int .u8 a] 5)) = .ok (.string (strOfNums [a])) (w.alloc (.cells #[.int .u8 a] 5)) :=
  conv_bytes 22 5 9 Try.underlying22 Try.underlying5 Try.underlying9 w 1 [a] rfl _ rfl
/-- The bytes of a number. -/
def byteS (n : Int) : ByteArray := ⟨#[UInt8.ofNat (97 + n % 26).toNat]⟩
set_option maxHeartbeats 400000 in
theorem bytes_any (n : Int) (w : World) (h0 : 0 ≤ n) (h1 : n ≤ 255) : Calls Try.prog 11 #[.int .u8 n] w fun e w' => e = .returned (.string (byteS n)) ∧ Below w.heap.size w w' := by
  have c1 := conv_1
  go_enter Try.func11, Try.ntmps11
  go_wp2
  go_ret
  exact ⟨rfl, (Below.refl _ _).alloc (Nat.le_refl _) _⟩
end Go.Proofs.Ytgpcpfohfoeclaa
