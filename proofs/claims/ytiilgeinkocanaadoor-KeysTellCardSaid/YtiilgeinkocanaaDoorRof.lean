/- Contracts of limnerref02.among and Of. -/
import Derived.Test.YtiilgeinkocanaaDoorIn
namespace Go.Proofs.YtiilgeinkocanaaDoor
open Go.RowKit

theorem among_take_succ {l : List (Int × Int)} {r : Int} {j : Nat} (hj : j < l.length) : among (l.take (j + 1)) r = (among (l.take j) r || (decide ((l[j]?.getD (0, 0)).1 ≤ r) && decide (r ≤ (l[j]?.getD (0, 0)).2))) := by
  rw [List.take_succ_eq_append_getElem hj, among, List.any_append]
  simp [among, hj]
theorem among_hit {l : List (Int × Int)} {r : Int} {j : Nat} (hj : j < l.length) (h1 : (l[j]?.getD (0, 0)).1 ≤ r) (h2 : r ≤ (l[j]?.getD (0, 0)).2) : among l r = true := by
  unfold among
  rw [List.any_eq_true]
  refine ⟨l[j], List.getElem_mem hj, ?_⟩
  simp only [List.getElem?_eq_getElem hj, Option.getD_some] at h1 h2
  simp [h1, h2]

theorem ret_among {a b : Bool} (h : a = b) : Ending.returned (.bool a) = .returned (.bool b) := by rw [h]

set_option maxHeartbeats 400000 in
theorem among_any (b n : Nat) (l : List (Int × Int)) (r : Int) (w : World) (h : RunsAt b l w) (hn : n = l.length * 2) (hl : l.length ≤ 1000) :
    Calls Tryd.prog 58 #[.int .i32 r, .slice (some ⟨b, 0, none⟩) n n] w fun e w' => e = .returned (.bool (among l r)) ∧ w = w' := by
  have HR := hide h
  have hn1 : n ≤ l.length * 2 := by omega
  have hn2 : l.length * 2 ≤ n := by omega
  clear h hn
  go_enter Tryd.func58, Tryd.ntmps58
  go_wp2
  go_loop [5] (fun i => ∃ j m : Nat, j ≤ l.length ∧ m ≤ j * 2 ∧ j * 2 ≤ m ∧ i = .int .i64 m ∧ Hid (among (l.take j) r = false)) (fun i => n - (intOf i).toNat)
  case atStart => exact ⟨0, 0, by omega, by omega, by omega, rfl, by simp [Hid, among]⟩
  case round =>
    obtain ⟨j, m, hj, hm1, hm2, rfl, HA⟩ := hrel
    by_cases hlt : j < l.length
    · have c := HR.out j hlt
      have c1 := c.1
      have c2 := c.2
      have HS := hide (among_take_succ (r := r) hlt)
      have HH := hide (fun h1 h2 => among_hit (r := r) hlt h1 h2)
      obtain ⟨x, hx⟩ : ∃ x, x = (l[j]?.getD (0, 0)).1 := ⟨_, rfl⟩
      obtain ⟨y, hy⟩ : ∃ y, y = (l[j]?.getD (0, 0)).2 := ⟨_, rfl⟩
      rw [← hx, ← hy] at HS HH
      rw [← hx] at c1
      rw [← hy] at c2
      clear c hx hy
      obtain rfl : m = j * 2 := by omega
      go_wp2
      · have h1 : x ≤ r := by assumption
        have h2 : r ≤ y := by assumption
        go_ret
        exact ⟨ret_among (HH.out h1 h2).symm, rfl⟩
      · have h2 : y < r := by assumption
        go_round
        case rel => exact ⟨j + 1, j * 2 + 2, by omega, by omega, by omega, by go_num, by rw [HS.out, HA.out, decide_eq_false (show ¬ r ≤ y by omega), Bool.and_false]; exact rfl⟩
        case measure => simp [intOf]; omega
      · have h1 : ¬ x ≤ r := by assumption
        go_round
        case rel => exact ⟨j + 1, j * 2 + 2, by omega, by omega, by omega, by go_num, by rw [HS.out, HA.out, decide_eq_false h1, Bool.false_and]; exact rfl⟩
        case measure => simp [intOf]; omega
    · go_wp2
      go_ret
      exact ⟨ret_among (by rw [← HA.out, List.take_of_length_le (by omega)]), rfl⟩

theorem cell_block (w : World) (cs : Array Value) (t : TypeId) (i : Nat) : (w.alloc (.cells cs t)).cell? ⟨w.heap.size, i, none⟩ = cs[i]? :=
  cell_of_row _ _ i cs t (0, 0) (heap_alloc_new w _)
theorem runs_hid2 (w : World) : RunsAt w.heap.size hid2 (w.alloc (.cells #[.int .i32 127, .int .i32 159, .int .i32 768, .int .i32 879, .int .i32 8203, .int .i32 8207, .int .i32 8232, .int .i32 8238, .int .i32 65024, .int .i32 65039, .int .i32 65279, .int .i32 65279] 21)) := fun j hj => by
  rw [cell_block, cell_block]
  match j, hj with
  | 0, _ => exact ⟨rfl, rfl⟩
  | 1, _ => exact ⟨rfl, rfl⟩
  | 2, _ => exact ⟨rfl, rfl⟩
  | 3, _ => exact ⟨rfl, rfl⟩
  | 4, _ => exact ⟨rfl, rfl⟩
  | 5, _ => exact ⟨rfl, rfl⟩
theorem runs_wid (w : World) : RunsAt w.heap.size wid (w.alloc (.cells #[.int .i32 4352, .int .i32 4447, .int .i32 11904, .int .i32 12350, .int .i32 12353, .int .i32 13311, .int .i32 13312, .int .i32 19903, .int .i32 19968, .int .i32 40959, .int .i32 40960, .int .i32 42191, .int .i32 44032, .int .i32 55203, .int .i32 63744, .int .i32 64255, .int .i32 65072, .int .i32 65135, .int .i32 65281, .int .i32 65376, .int .i32 65504, .int .i32 65510, .int .i32 127744, .int .i32 128591, .int .i32 129280, .int .i32 129535, .int .i32 131072, .int .i32 262141] 21)) := fun j hj => by
  rw [cell_block, cell_block]
  match j, hj with
  | 0, _ => exact ⟨rfl, rfl⟩
  | 1, _ => exact ⟨rfl, rfl⟩
  | 2, _ => exact ⟨rfl, rfl⟩
  | 3, _ => exact ⟨rfl, rfl⟩
  | 4, _ => exact ⟨rfl, rfl⟩
  | 5, _ => exact ⟨rfl, rfl⟩
  | 6, _ => exact ⟨rfl, rfl⟩
  | 7, _ => exact ⟨rfl, rfl⟩
  | 8, _ => exact ⟨rfl, rfl⟩
  | 9, _ => exact ⟨rfl, rfl⟩
  | 10, _ => exact ⟨rfl, rfl⟩
  | 11, _ => exact ⟨rfl, rfl⟩
  | 12, _ => exact ⟨rfl, rfl⟩
  | 13, _ => exact ⟨rfl, rfl⟩

theorem putS_empty (r : Int) : (putS r).toList.isEmpty = decide (r < 0 ∨ 1114111 < r ∨ (55296 ≤ r ∧ r ≤ 57343)) := by
  rw [ByteArray.toList_eq]
  rcases put_cases r with ⟨h, b⟩ | ⟨h, b⟩ | ⟨h, b⟩ | ⟨h, b⟩ | ⟨h, b⟩ <;> rw [h] <;> simp <;> omega
/-- What the document says of a rune's cells. -/
theorem cells_ref (r : Int) : cells r = if (r < 0 ∨ 1114111 < r ∨ (55296 ≤ r ∧ r ≤ 57343)) ∨ r < 32 ∨ among hid2 r = true then 0 else if among wid r = true then 2 else 1 := by
  have h : (r < 0 ∨ 1114111 < r ∨ among hid r = true) ↔ ((r < 0 ∨ 1114111 < r ∨ (55296 ≤ r ∧ r ≤ 57343)) ∨ r < 32 ∨ among hid2 r = true) := by
    simp only [among, hid, hid2, List.any_cons, List.any_nil, Bool.or_eq_true, Bool.and_eq_true, decide_eq_true_eq, Bool.or_false]
    omega
  unfold cells
  by_cases hc : r < 0 ∨ 1114111 < r ∨ among hid r = true
  · rw [if_pos hc, if_pos (h.1 hc)]
  · rw [if_neg hc, if_neg (fun e => hc (h.2 e))]

set_option maxRecDepth 100000 in
set_option maxHeartbeats 1000000 in
theorem rof_any (r : Int) (w : World) :
    Calls Tryd.prog 44 #[.int .i32 r] w fun e w' => e = .returned (.int .i64 (cells r)) ∧ Below w.heap.size w w' := by
  have he := putS_empty r
  by_cases h0 : r < 0 ∨ 1114111 < r ∨ (55296 ≤ r ∧ r ≤ 57343)
  · have HE : (putS r).toList.isEmpty = true := by rw [he, decide_eq_true h0]
    have H0 := hide h0
    clear he h0
    go_enter Tryd.func44, Tryd.ntmps44
    go_wp2_with (go_at_call 57; refine (put_any _ _).mono ?_; rintro e w1 ⟨rfl, hb1⟩)
    go_ret
    exact ⟨ret_cells (by rw [cells_ref, if_pos (.inl H0.out)]), hb1⟩
  have HE : (putS r).toList.isEmpty = false := by rw [he, decide_eq_false h0]
  have H0 := hide h0
  clear he h0
  by_cases h1 : r < 32
  · go_enter Tryd.func44, Tryd.ntmps44
    go_wp2_with (go_at_call 57; refine (put_any _ _).mono ?_; rintro e w1 ⟨rfl, hb1⟩)
    go_ret
    exact ⟨ret_cells (by rw [cells_ref, if_pos (.inr (.inl h1))]), hb1⟩
  · cases ha : among hid2 r
    · cases hw : among wid r
      · have HA := hide ha
        have HW := hide hw
        clear ha hw
        go_enter Tryd.func44, Tryd.ntmps44
        go_wp2_with (go_at_call 57; refine (put_any _ _).mono ?_; rintro e w1 ⟨rfl, hb1⟩)
        refine (among_any w1.heap.size 12 hid2 r _ (runs_hid2 w1) rfl (by decide)).mono ?_
        rw [HA.out]
        rintro e w2 ⟨rfl, rfl⟩
        have hb2 := hb1.alloc hb1.size (.cells #[.int .i32 127, .int .i32 159, .int .i32 768, .int .i32 879, .int .i32 8203, .int .i32 8207, .int .i32 8232, .int .i32 8238, .int .i32 65024, .int .i32 65039, .int .i32 65279, .int .i32 65279] 21)
        clear hb1
        generalize (w1.alloc (.cells #[.int .i32 127, .int .i32 159, .int .i32 768, .int .i32 879, .int .i32 8203, .int .i32 8207, .int .i32 8232, .int .i32 8238, .int .i32 65024, .int .i32 65039, .int .i32 65279, .int .i32 65279] 21)) = w2 at *
        go_wp2_with fail
        refine (among_any w2.heap.size 28 wid r _ (runs_wid w2) rfl (by decide)).mono ?_
        rw [HW.out]
        rintro e w3 ⟨rfl, rfl⟩
        go_wp2
        go_ret
        exact ⟨ret_cells (by rw [cells_ref, if_neg (by rw [HA.out]; simp; have := H0.out; omega), HW.out]; rfl), hb2.alloc hb2.size _⟩
      · have HA := hide ha
        have HW := hide hw
        clear ha hw
        go_enter Tryd.func44, Tryd.ntmps44
        go_wp2_with (go_at_call 57; refine (put_any _ _).mono ?_; rintro e w1 ⟨rfl, hb1⟩)
        refine (among_any w1.heap.size 12 hid2 r _ (runs_hid2 w1) rfl (by decide)).mono ?_
        rw [HA.out]
        rintro e w2 ⟨rfl, rfl⟩
        have hb2 := hb1.alloc hb1.size (.cells #[.int .i32 127, .int .i32 159, .int .i32 768, .int .i32 879, .int .i32 8203, .int .i32 8207, .int .i32 8232, .int .i32 8238, .int .i32 65024, .int .i32 65039, .int .i32 65279, .int .i32 65279] 21)
        clear hb1
        generalize (w1.alloc (.cells #[.int .i32 127, .int .i32 159, .int .i32 768, .int .i32 879, .int .i32 8203, .int .i32 8207, .int .i32 8232, .int .i32 8238, .int .i32 65024, .int .i32 65039, .int .i32 65279, .int .i32 65279] 21)) = w2 at *
        go_wp2_with fail
        refine (among_any w2.heap.size 28 wid r _ (runs_wid w2) rfl (by decide)).mono ?_
        rw [HW.out]
        rintro e w3 ⟨rfl, rfl⟩
        go_wp2
        go_ret
        exact ⟨ret_cells (by rw [cells_ref, if_neg (by rw [HA.out]; simp; have := H0.out; omega), HW.out]; rfl), hb2.alloc hb2.size _⟩
    · have HA := hide ha
      clear ha
      go_enter Tryd.func44, Tryd.ntmps44
      go_wp2_with (go_at_call 57; refine (put_any _ _).mono ?_; rintro e w1 ⟨rfl, hb1⟩)
      refine (among_any w1.heap.size 12 hid2 r _ (runs_hid2 w1) rfl (by decide)).mono ?_
      rw [HA.out]
      rintro e w2 ⟨rfl, rfl⟩
      have hb2 := hb1.alloc hb1.size (.cells #[.int .i32 127, .int .i32 159, .int .i32 768, .int .i32 879, .int .i32 8203, .int .i32 8207, .int .i32 8232, .int .i32 8238, .int .i32 65024, .int .i32 65039, .int .i32 65279, .int .i32 65279] 21)
      go_wp2
      go_ret
      exact ⟨ret_cells (by rw [cells_ref, if_pos (.inr (.inr HA.out))]), hb2⟩
end Go.Proofs.YtiilgeinkocanaaDoor
