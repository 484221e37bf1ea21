/- Contracts of limnerref02.among and Of. Contract of limnerref06.Valid: cell by cell. -/
import Derived.Test.YtmemdhmjhckmaaaDoorZ2
import Derived.Test.YtmemdhmjhckmaaaDoorZ4
namespace Go.Proofs.YtmemdhmjhckmaaaDoor
open Go.RowKit

theorem among_take_succ {l : List (Int × Int)} {r : Int} {j : Nat} (hj : j < l.length) : among (l.take (j + 1)) r = (among (l.take j) r || (decide ((l[j]?.getD (0, 0)).1 ≤ r) && decide (r ≤ (l[j]?.getD (0, 0)).2))) := by
  rw [List.take_succ_eq_append_getElem hj, among, List.any_append]
  simp [among, hj]
theorem among_hit {l : List (Int × Int)} {r : Int} {j : Nat} (hj : j < l.length) (h1 : (l[j]?.getD (0, 0)).1 ≤ r) (h2 : r ≤ (l[j]?.getD (0, 0)).2) : among l r = true := by
  unfold among
  rw [List.any_eq_true]
  refine ⟨l[j], List.getElem_mem hj, ?_⟩
  simp only [List.getElem?_eq_getElem hj, Option.getD_some] at h1 h2
  simp [h1, h2]

theorem ret_among {a b : Bool} (h : a = b) : Ending.returned (.bool a) = .returned (.bool b) := by rw [h]

set_option maxHeartbeats 400000 in
theorem among_any (b n : Nat) (l : List (Int × Int)) (r : Int) (w : World) (h : RunsAt b l w) (hn : n = l.length * 2) (hl : l.length ≤ 1000) :
    Calls Tryd.prog 85 #[.int .i32 r, .slice (some ⟨b, 0, none⟩) n n] w fun e w' => e = .returned (.bool (among l r)) ∧ w = w' := by
  have HR := hide h
  have hn1 : n ≤ l.length * 2 := by omega
  have hn2 : l.length * 2 ≤ n := by omega
  clear h hn
  go_enter Tryd.func85, Tryd.ntmps85
  go_wp2
  go_loop [5] (fun i => ∃ j m : Nat, j ≤ l.length ∧ m ≤ j * 2 ∧ j * 2 ≤ m ∧ i = .int .i64 m ∧ Hid (among (l.take j) r = false)) (fun i => n - (intOf i).toNat)
  case atStart => exact ⟨0, 0, by omega, by omega, by omega, rfl, by simp [Hid, among]⟩
  case round =>
    obtain ⟨j, m, hj, hm1, hm2, rfl, HA⟩ := hrel
    by_cases hlt : j < l.length
    · have c := HR.out j hlt
      have c1 := c.1
      have c2 := c.2
      have HS := hide (among_take_succ (r := r) hlt)
      have HH := hide (fun h1 h2 => among_hit (r := r) hlt h1 h2)
      obtain ⟨x, hx⟩ : ∃ x, x = (l[j]?.getD (0, 0)).1 := ⟨_, rfl⟩
      obtain ⟨y, hy⟩ : ∃ y, y = (l[j]?.getD (0, 0)).2 := ⟨_, rfl⟩
      rw [← hx, ← hy] at HS HH
      rw [← hx] at c1
      rw [← hy] at c2
      clear c hx hy
      obtain rfl : m = j * 2 := by omega
      go_wp2
      · have h1 : x ≤ r := by assumption
        have h2 : r ≤ y := by assumption
        go_ret
        exact ⟨ret_among (HH.out h1 h2).symm, rfl⟩
      · have h2 : y < r := by assumption
        go_round
        case rel => exact ⟨j + 1, j * 2 + 2, by omega, by omega, by omega, by go_num, by rw [HS.out, HA.out, decide_eq_false (show ¬ r ≤ y by omega), Bool.and_false]; exact rfl⟩
        case measure => simp [intOf]; omega
      · have h1 : ¬ x ≤ r := by assumption
        go_round
        case rel => exact ⟨j + 1, j * 2 + 2, by omega, by omega, by omega, by go_num, by rw [HS.out, HA.out, decide_eq_false h1, Bool.false_and]; exact rfl⟩
        case measure => simp [intOf]; omega
    · go_wp2
      go_ret
      exact ⟨ret_among (by rw [← HA.out, List.take_of_length_le (by omega)]), rfl⟩

theorem cell_block (w : World) (cs : Array Value) (t : TypeId) (i : Nat) : (w.alloc (.cells cs t)).cell? ⟨w.heap.size, i, none⟩ = cs[i]? :=
  cell_of_row _ _ i cs t (0, 0) (heap_alloc_new w _)
theorem runs_hid2 (w : World) : RunsAt w.heap.size hid2 (w.alloc (.cells #[.int .i32 127, .int .i32 159, .int .i32 768, .int .i32 879, .int .i32 8203, .int .i32 8207, .int .i32 8232, .int .i32 8238, .int .i32 65024, .int .i32 65039, .int .i32 65279, .int .i32 65279] 21)) := fun j hj => by
  rw [cell_block, cell_block]
  match j, hj with
  | 0, _ => exact ⟨rfl, rfl⟩
  | 1, _ => exact ⟨rfl, rfl⟩
  | 2, _ => exact ⟨rfl, rfl⟩
  | 3, _ => exact ⟨rfl, rfl⟩
  | 4, _ => exact ⟨rfl, rfl⟩
  | 5, _ => exact ⟨rfl, rfl⟩
theorem runs_wid (w : World) : RunsAt w.heap.size wid (w.alloc (.cells #[.int .i32 4352, .int .i32 4447, .int .i32 11904, .int .i32 12350, .int .i32 12353, .int .i32 13311, .int .i32 13312, .int .i32 19903, .int .i32 19968, .int .i32 40959, .int .i32 40960, .int .i32 42191, .int .i32 44032, .int .i32 55203, .int .i32 63744, .int .i32 64255, .int .i32 65072, .int .i32 65135, .int .i32 65281, .int .i32 65376, .int .i32 65504, .int .i32 65510, .int .i32 127744, .int .i32 128591, .int .i32 129280, .int .i32 129535, .int .i32 131072, .int .i32 262141] 21)) := fun j hj => by
  rw [cell_block, cell_block]
  match j, hj with
  | 0, _ => exact ⟨rfl, rfl⟩
  | 1, _ => exact ⟨rfl, rfl⟩
  | 2, _ => exact ⟨rfl, rfl⟩
  | 3, _ => exact ⟨rfl, rfl⟩
  | 4, _ => exact ⟨rfl, rfl⟩
  | 5, _ => exact ⟨rfl, rfl⟩
  | 6, _ => exact ⟨rfl, rfl⟩
  | 7, _ => exact ⟨rfl, rfl⟩
  | 8, _ => exact ⟨rfl, rfl⟩
  | 9, _ => exact ⟨rfl, rfl⟩
  | 10, _ => exact ⟨rfl, rfl⟩
  | 11, _ => exact ⟨rfl, rfl⟩
  | 12, _ => exact ⟨rfl, rfl⟩
  | 13, _ => exact ⟨rfl, rfl⟩

theorem putS_empty (r : Int) : (putS r).toList.isEmpty = decide (r < 0 ∨ 1114111 < r ∨ (55296 ≤ r ∧ r ≤ 57343)) := by
  rw [ByteArray.toList_eq]
  rcases put_cases r with ⟨h, b⟩ | ⟨h, b⟩ | ⟨h, b⟩ | ⟨h, b⟩ | ⟨h, b⟩ <;> rw [h] <;> simp <;> omega
/-- What the document says of a rune's cells. -/
theorem cells_ref (r : Int) : cells r = if (r < 0 ∨ 1114111 < r ∨ (55296 ≤ r ∧ r ≤ 57343)) ∨ r < 32 ∨ among hid2 r = true then 0 else if among wid r = true then 2 else 1 := by
  have h : (r < 0 ∨ 1114111 < r ∨ among hid r = true) ↔ ((r < 0 ∨ 1114111 < r ∨ (55296 ≤ r ∧ r ≤ 57343)) ∨ r < 32 ∨ among hid2 r = true) := by
    simp only [among, hid, hid2, List.any_cons, List.any_nil, Bool.or_eq_true, Bool.and_eq_true, decide_eq_true_eq, Bool.or_false]
    omega
  unfold cells
  by_cases hc : r < 0 ∨ 1114111 < r ∨ among hid r = true
  · rw [if_pos hc, if_pos (h.1 hc)]
  · rw [if_neg hc, if_neg (fun e => hc (h.2 e))]

set_option maxRecDepth 100000 in
set_option maxHeartbeats 1000000 in
theorem rof_any (r : Int) (w : World) :
    Calls Tryd.prog 62 #[.int .i32 r] w fun e w' => e = .returned (.int .i64 (cells r)) ∧ Below w.heap.size w w' := by
  have he := putS_empty r
  by_cases h0 : r < 0 ∨ 1114111 < r ∨ (55296 ≤ r ∧ r ≤ 57343)
  · have HE : (putS r).toList.isEmpty = true := by rw [he, decide_eq_true h0]
    have H0 := hide h0
    clear he h0
    go_enter Tryd.func62, Tryd.ntmps62
    go_wp2_with (go_at_call 84; refine (put_any _ _).mono ?_; rintro e w1 ⟨rfl, hb1⟩)
    go_ret
    exact ⟨ret_cells (by rw [cells_ref, if_pos (.inl H0.out)]), hb1⟩
  have HE : (putS r).toList.isEmpty = false := by rw [he, decide_eq_false h0]
  have H0 := hide h0
  clear he h0
  by_cases h1 : r < 32
  · go_enter Tryd.func62, Tryd.ntmps62
    go_wp2_with (go_at_call 84; refine (put_any _ _).mono ?_; rintro e w1 ⟨rfl, hb1⟩)
    go_ret
    exact ⟨ret_cells (by rw [cells_ref, if_pos (.inr (.inl h1))]), hb1⟩
  · cases ha : among hid2 r
    · cases hw : among wid r
      · have HA := hide ha
        have HW := hide hw
        clear ha hw
        go_enter Tryd.func62, Tryd.ntmps62
        go_wp2_with (go_at_call 84; refine (put_any _ _).mono ?_; rintro e w1 ⟨rfl, hb1⟩)
        refine (among_any w1.heap.size 12 hid2 r _ (runs_hid2 w1) rfl (by decide)).mono ?_
        rw [HA.out]
        rintro e w2 ⟨rfl, rfl⟩
        have hb2 := hb1.alloc hb1.size (.cells #[.int .i32 127, .int .i32 159, .int .i32 768, .int .i32 879, .int .i32 8203, .int .i32 8207, .int .i32 8232, .int .i32 8238, .int .i32 65024, .int .i32 65039, .int .i32 65279, .int .i32 65279] 21)
        clear hb1
        generalize (w1.alloc (.cells #[.int .i32 127, .int .i32 159, .int .i32 768, .int .i32 879, .int .i32 8203, .int .i32 8207, .int .i32 8232, .int .i32 8238, .int .i32 65024, .int .i32 65039, .int .i32 65279, .int .i32 65279] 21)) = w2 at *
        go_wp2_with fail
        refine (among_any w2.heap.size 28 wid r _ (runs_wid w2) rfl (by decide)).mono ?_
        rw [HW.out]
        rintro e w3 ⟨rfl, rfl⟩
        go_wp2
        go_ret
        exact ⟨ret_cells (by rw [cells_ref, if_neg (by rw [HA.out]; simp; have := H0.out; omega), HW.out]; rfl), hb2.alloc hb2.size _⟩
      · have HA := hide ha
        have HW := hide hw
        clear ha hw
        go_enter Tryd.func62, Tryd.ntmps62
        go_wp2_with (go_at_call 84; refine (put_any _ _).mono ?_; rintro e w1 ⟨rfl, hb1⟩)
        refine (among_any w1.heap.size 12 hid2 r _ (runs_hid2 w1) rfl (by decide)).mono ?_
        rw [HA.out]
        rintro e w2 ⟨rfl, rfl⟩
        have hb2 := hb1.alloc hb1.size (.cells #[.int .i32 127, .int .i32 159, .int .i32 768, .int .i32 879, .int .i32 8203, .int .i32 8207, .int .i32 8232, .int .i32 8238, .int .i32 65024, .int .i32 65039, .int .i32 65279, .int .i32 65279] 21)
        clear hb1
        generalize (w1.alloc (.cells #[.int .i32 127, .int .i32 159, .int .i32 768, .int .i32 879, .int .i32 8203, .int .i32 8207, .int .i32 8232, .int .i32 8238, .int .i32 65024, .int .i32 65039, .int .i32 65279, .int .i32 65279] 21)) = w2 at *
        go_wp2_with fail
        refine (among_any w2.heap.size 28 wid r _ (runs_wid w2) rfl (by decide)).mono ?_
        rw [HW.out]
        rintro e w3 ⟨rfl, rfl⟩
        go_wp2
        go_ret
        exact ⟨ret_cells (by rw [cells_ref, if_neg (by rw [HA.out]; simp; have := H0.out; omega), HW.out]; rfl), hb2.alloc hb2.size _⟩
    · have HA := hide ha
      clear ha
      go_enter Tryd.func62, Tryd.ntmps62
      go_wp2_with (go_at_call 84; refine (put_any _ _).mono ?_; rintro e w1 ⟨rfl, hb1⟩)
      refine (among_any w1.heap.size 12 hid2 r _ (runs_hid2 w1) rfl (by decide)).mono ?_
      rw [HA.out]
      rintro e w2 ⟨rfl, rfl⟩
      have hb2 := hb1.alloc hb1.size (.cells #[.int .i32 127, .int .i32 159, .int .i32 768, .int .i32 879, .int .i32 8203, .int .i32 8207, .int .i32 8232, .int .i32 8238, .int .i32 65024, .int .i32 65039, .int .i32 65279, .int .i32 65279] 21)
      go_wp2
      go_ret
      exact ⟨ret_cells (by rw [cells_ref, if_pos (.inr (.inr HA.out))]), hb2⟩
end Go.Proofs.YtmemdhmjhckmaaaDoor
namespace Go.Proofs.YtmemdhmjhckmaaaDoor
open Go.RowKit

/-- The cells up to k may be. -/
def okK (L : List Cl) (C k : Nat) : Prop := ∀ j c, j < k → L[j]? = some c → okAt L C j c = true
theorem okK_all {L : List Cl} {R C : Nat} (hc : 0 < C) (hL : L.length = R * C) (h : okK L C L.length) : validL L R C = true :=
  (valid_cells L R C hc hL).2 fun i c hi => h i c (List.getElem?_eq_some_iff.1 hi).1 hi
theorem okK_bad {L : List Cl} {R C i : Nat} {c : Cl} (hc : 0 < C) (hL : L.length = R * C) (hi : L[i]? = some c) (h : okAt L C i c = false) : validL L R C = false := by
  refine Bool.eq_false_iff.2 fun hv => ?_
  have := (valid_cells L R C hc hL).1 hv i c hi
  rw [h] at this
  cases this
theorem okK_step {L : List Cl} {C k : Nat} {c : Cl} (h : okK L C k) (hi : L[k]? = some c) (hok : okAt L C k c = true) : okK L C (k + 1) := by
  intro j d hj hd
  rcases Nat.lt_succ_iff_lt_or_eq.1 hj with h1 | rfl
  · exact h j d h1 hd
  · rw [hi] at hd; cases hd; exact hok
/-- What a cell's test says, by its width. -/
theorem okAt_sty {L : List Cl} {C i : Nat} {c : Cl} (h : styC c = false) : okAt L C i c = false := by unfold okAt cellB; rw [h]; simp
theorem okAt_w {L : List Cl} {C i : Nat} {c : Cl} (h : c.w < 0 ∨ 2 < c.w) : okAt L C i c = false := cell_bad h
theorem okAt_1 {L : List Cl} {C i : Nat} {c : Cl} (h : c.w = 1) (hs : styC c = true) : okAt L C i c = decide (cells c.r = 1) := by unfold okAt; rw [cell_1 h, hs, Bool.and_true]
theorem okAt_2 {L : List Cl} {C i : Nat} {c : Cl} (h : c.w = 2) (hs : styC c = true) : okAt L C i c = (decide (cells c.r = 2) && (if i % C = C - 1 then none else L[i + 1]?).any fun d => decide (d.w = 0)) := by unfold okAt; rw [cell_2 h, hs, Bool.and_true]
theorem okAt_0 {L : List Cl} {C i : Nat} {c : Cl} (h : c.w = 0) (hs : styC c = true) : okAt L C i c = (if i % C = 0 then none else L[i - 1]?).any fun d => decide (d.w = 2) && decide (c.r = 0) && styE c d := by unfold okAt; rw [cell_0 h, hs, Bool.true_and]
theorem next_in {i R C : Nat} (h : i < R * C) (hC : 0 < C) (h2 : ¬ i % C = C - 1) : i + 1 < R * C := by
  rcases Nat.lt_or_eq_of_le (show i + 1 ≤ R * C from h) with h3 | h3
  · exact h3
  · exfalso
    apply h2
    have h4 : (i + 1) % C = 0 := by rw [h3]; exact Nat.mul_mod_left _ _
    obtain ⟨q, hq⟩ := Nat.dvd_of_mod_eq_zero h4
    have hq0 : 0 < q := by rcases Nat.eq_zero_or_pos q with e | e; rw [e] at hq; omega; exact e
    obtain ⟨p, rfl⟩ : ∃ p, q = p + 1 := ⟨q - 1, by omega⟩
    have : i = C * p + (C - 1) := by rw [Nat.mul_add, Nat.mul_one] at hq; omega
    rw [this, Nat.mul_add_mod, Nat.mod_eq_of_lt (by omega)]
theorem rstyle_is (c : Cl) (x : Bool) (hx : styC c = x) (w : World) : Calls Tryd.prog 88 #[.agg #[.int .i64 c.fg, .bool c.bo, .bool c.un, .bool c.iv]] w fun e w' => e = .returned (.bool x) ∧ Below w.heap.size w w' := by
  subst hx; exact rstyle_any c w
theorem rof_is (r x : Int) (hx : cells r = x) (w : World) : Calls Tryd.prog 62 #[.int .i32 r] w fun e w' => e = .returned (.int .i64 x) ∧ Below w.heap.size w w' := by
  subst hx; exact rof_any r w

set_option maxRecDepth 100000 in
set_option maxHeartbeats 8000000 in
theorem rvalid_any (f : Fr) (v : Value) (w : World) (h : FrAt w v f) :
    Calls Tryd.prog 86 #[v] w fun e w' => e = .returned (.bool (validF f)) ∧ Below w.heap.size w w' := by
  obtain ⟨A, cap, rfl, hn, hcap, hcl⟩ := h
  obtain ⟨rows, cols, cs, row, col⟩ := f
  dsimp only at hn hcap hcl
  obtain ⟨n, hnn⟩ : ∃ n, cs.length = n := ⟨_, rfl⟩
  have HN := hide hnn
  have HCL := hide hcl
  unfold frV
  dsimp only
  rw [hnn] at hn ⊢
  clear hcl hnn
  have hmx := hcap
  unfold maxLen at hmx
  have HB0 := hide (show Below w.heap.size w (w.alloc (.cells (frCells rows cols (.slice A n cap) row col).toArray 35)) from (Below.refl _ _).alloc (Nat.le_refl _) _)
  by_cases hmay : mayB rows cols = true
  case neg =>
    have HV := hide (valid_may (f := ⟨rows, cols, cs, row, col⟩) (by simpa using hmay))
    have HM := hide (fun W => rmay_is rows cols false (by simpa using hmay) W)
    clear hmay
    go_enter Tryd.func86, Tryd.ntmps86
    go_wp2_with (first | (go_at_call 47; refine (HM.out _).mono ?_; rintro e w' ⟨rfl, rfl⟩) | fail)
    go_ret
    exact ⟨ret_bG (by rw [HV.out]), HB0.out⟩
  case pos =>
    have HM := hide (fun W => rmay_is rows cols true hmay W)
    obtain ⟨m1, m2, m3, m4⟩ := may_t.1 hmay
    have hp0 : 16 ≤ rows * cols := by have := Int.mul_le_mul m1 m3 (by omega) (by omega); omega
    have hp1 : rows * cols ≤ 20000 := by have := Int.mul_le_mul m2 m4 (by omega) (by omega); omega
    obtain ⟨p, hpp⟩ : ∃ p, rows * cols = p := ⟨_, rfl⟩
    have HP0 := hide hpp
    have HMAY := hide hmay
    rw [hpp] at hp0 hp1
    have hwr : IntKind.i64.wrap (rows * cols) = p := by rw [hpp]; simp [IntKind.wrap_i64]; omega
    clear hmay hpp
    by_cases hsz : (n : Int) = p
    case neg =>
      have HV := hide (valid_size (f := ⟨rows, cols, cs, row, col⟩) (by dsimp only; rw [HN.out, HP0.out]; exact hsz))
      go_enter Tryd.func86, Tryd.ntmps86
      go_wp2_with (first | (go_at_call 47; refine (HM.out _).mono ?_; rintro e w' ⟨rfl, rfl⟩) | fail)
      go_ret
      exact ⟨ret_bG (by rw [HV.out]), HB0.out⟩
    case pos =>
      subst hsz
      by_cases hcur : 0 ≤ row ∧ row < rows ∧ 0 ≤ col ∧ col < cols
      case neg =>
        have HV := hide (valid_cur (f := ⟨rows, cols, cs, row, col⟩) hcur)
        have h4 : row < 0 ∨ (¬ row < 0 ∧ rows ≤ row) ∨ (¬ row < 0 ∧ ¬ rows ≤ row ∧ col < 0) ∨ (¬ row < 0 ∧ ¬ rows ≤ row ∧ ¬ col < 0 ∧ cols ≤ col) := by omega
        clear hcur
        rcases h4 with h4 | ⟨h4, h5⟩ | ⟨h4, h5, h6⟩ | ⟨h4, h5, h6, h7⟩
        all_goals
          go_enter Tryd.func86, Tryd.ntmps86
          go_wp2_with (first | (go_at_call 47; refine (HM.out _).mono ?_; rintro e w' ⟨rfl, rfl⟩) | fail)
          go_ret
          exact ⟨ret_bG (by rw [HV.out]), HB0.out⟩
      case pos =>
        obtain ⟨c1, c2, c3, c4⟩ := hcur
        obtain ⟨R, rfl⟩ : ∃ R : Nat, rows = R := ⟨rows.toNat, by omega⟩
        obtain ⟨C, rfl⟩ : ∃ C : Nat, cols = C := ⟨cols.toNat, by omega⟩
        have HV := hide (validF_of (cs := cs) HMAY.out (by rw [HN.out, HP0.out]) ⟨c1, c2, c3, c4⟩)
        obtain ⟨b, o, hA, -⟩ := ClsAt.at (j := 0) HCL.out (List.getElem?_eq_getElem (show 0 < cs.length by rw [HN.out]; omega))
        subst hA
        have HNRC := hide (show n = R * C from by have := HP0.out; exact_mod_cast this.symm)
        have d1 : ¬ row < 0 := by omega
        have d2 : ¬ (R : Int) ≤ row := by omega
        have d3 : ¬ col < 0 := by omega
        have d4 : ¬ (C : Int) ≤ col := by omega
        have hC0 : ¬ C = 0 := by omega
        have HBK := hide (Blk.new w 35 (frCells R C (.slice (some ⟨b, o, none⟩) n cap) row col))
        go_enter Tryd.func86, Tryd.ntmps86
        go_wp2_with (first | (go_at_call 47; refine (HM.out _).mono ?_; rintro e w' ⟨rfl, rfl⟩) | fail)
        go_loopw [3] (fun iv wr => ∃ i : Nat, iv = .int .i64 i ∧ i ≤ n ∧ Hid (okK cs C i) ∧ Hid (Blk wr w.heap.size 35 (frCells R C (.slice (some ⟨b, o, none⟩) n cap) row col)) ∧ Hid (Below w.heap.size w wr)) (fun iv _ => n - (intOf iv).toNat)
        case atStart => exact ⟨0, rfl, by omega, hide (fun j c hj => by omega), HBK, HB0⟩
        case round =>
          clear HB0 HBK HM
          obtain ⟨i, rfl, hi, HOK, HBK, HB⟩ := hrel
          by_cases hlt : i < n
          · obtain ⟨c, hci⟩ : ∃ c, cs[i]? = some c := ⟨_, List.getElem?_eq_getElem (show i < cs.length by rw [HN.out]; exact hlt)⟩
            obtain ⟨b', o', e, hlt', g0, g1, g2, g3, g4, g5⟩ := ClsAt.at (show ClsAt wr _ _ from HCL.out.below HB.out) hci
            injection e with e
            injection e with e1 e2
            subst e1 e2
            have HO1 := hide (fun h hs => @okAt_1 cs C i c h hs)
            have HO2 := hide (fun h hs => @okAt_2 cs C i c h hs)
            have HO0 := hide (fun h hs => @okAt_0 cs C i c h hs)
            have HOW := hide (fun h => @okAt_w cs C i c h)
            have HOS := hide (fun h => @okAt_sty cs C i c h)
            have HST := hide (fun h => @okK_step cs C i c HOK.out hci h)
            have HBD := hide (fun h => @okK_bad cs R C i c (by omega) (by rw [HN.out, HNRC.out]) hci h)
            have hCr := rof_is c.r
            have hSt := rstyle_is c
            obtain ⟨sc, hsc⟩ : ∃ x, styC c = x := ⟨_, rfl⟩
            obtain ⟨cr, hcr⟩ : ∃ x, cells c.r = x := ⟨_, rfl⟩
            have HOf := hide (hCr cr hcr)
            have HSt := hide (hSt sc hsc)
            have HSC := hide hsc
            have HCR := hide hcr
            clear hCr hSt hsc hcr
            obtain ⟨r, wd, fg, bo, un, iv⟩ := c
            dsimp only at g0 g1 g2 g3 g4 g5
            have HK := hide ((Blk.new wr 82 [.int .i32 r, .int .i64 wd, .int .i64 fg, .bool bo, .bool un, .bool iv]))
            have HA := hide (show Below wr.heap.size wr (wr.alloc (.cells #[.int .i32 r, .int .i64 wd, .int .i64 fg, .bool bo, .bool un, .bool iv] 82)) from (Below.refl _ _).alloc (Nat.le_refl _) _)
            have HBK1 := hide (HBK.out.below HA.out)
            have HF := hide (show ∀ W, Below (wr.alloc (.cells #[.int .i32 r, .int .i64 wd, .int .i64 fg, .bool bo, .bool un, .bool iv] 82)).heap.size (wr.alloc (.cells #[.int .i32 r, .int .i64 wd, .int .i64 fg, .bool bo, .bool un, .bool iv] 82)) W → W.cell? ⟨w.heap.size, 1, none⟩ = some (.int .i64 C) ∧ W.cell? ⟨w.heap.size, 2, none⟩ = some (.slice (some ⟨b, o, none⟩) n cap) ∧ W.cell? ⟨wr.heap.size, 0, none⟩ = some (.int .i32 r) ∧ W.cell? ⟨wr.heap.size, 1, none⟩ = some (.int .i64 wd) ∧ W.cell? ⟨wr.heap.size, 2, none⟩ = some (.int .i64 fg) ∧ W.cell? ⟨wr.heap.size, 3, none⟩ = some (.bool bo) ∧ W.cell? ⟨wr.heap.size, 4, none⟩ = some (.bool un) ∧ W.cell? ⟨wr.heap.size, 5, none⟩ = some (.bool iv)
              from fun W hW => ⟨(HBK1.out.below hW).cell (i := 1) rfl, (HBK1.out.below hW).cell (i := 2) rfl, (HK.out.below hW).cell (i := 0) rfl, (HK.out.below hW).cell (i := 1) rfl, (HK.out.below hW).cell (i := 2) rfl, (HK.out.below hW).cell (i := 3) rfl, (HK.out.below hW).cell (i := 4) rfl, (HK.out.below hW).cell (i := 5) rfl⟩)
            obtain ⟨a, ha⟩ : ∃ a : Nat, i % C = a := ⟨_, rfl⟩
            have haC : a < C := by rw [← ha]; exact Nat.mod_lt _ (by omega)
            have hrem : (i : Int) % (C : Int) = (a : Int) := by rw [← ha]; exact_mod_cast rfl
            have htm : Int.tmod (i : Int) (C : Int) = (a : Int) := by rw [Int.tmod_eq_emod_of_nonneg (by omega)]; exact hrem
            have hC0i : ¬ (C : Int) = 0 := by omega
            have HAA := hide ha
            have f1 := HBK.out.cell (i := 1) rfl
            have f2 := HBK.out.cell (i := 2) rfl
            clear ha
            go_wp2
            clear f1 f2
            obtain ⟨W1, hW1⟩ : ∃ W1, wr.alloc (.cells #[.int .i32 r, .int .i64 wd, .int .i64 fg, .bool bo, .bool un, .bool iv] 82) = W1 := ⟨_, rfl⟩
            rw [hW1] at HF HA HK HBK1 ⊢
            have HBKx := hide HBK1.out
            have HB1 := hide (HB.out.trans (HA.out.mono HB.out.size))
            have HBKr := hide HBK.out.lt
            clear hW1 HBK HB HK HBK1
            obtain ⟨f1, f2, p0, p1, p2, p3, p4, p5⟩ := HF.out W1 (Below.refl _ _)
            go_region
            have HBd := hide (Below.drew (Below.refl W1.heap.size W1))
            cases sc with
            | false =>
              have HV2 := hide (HBD.out (HOS.out HSC.out))
              clear HO1 HO2 HO0 HOW HOS HST HBD
              go_wp2_with (first | (go_at_call 88; refine (HSt.out _).mono ?_; rintro e w2 ⟨rfl, hb2⟩; have HB2 := hide hb2) | fail)
              go_ret
              exact ⟨ret_bG (by rw [HV.out, HV2.out]), HB1.out.trans ((HBd.out.trans (HB2.out.mono (by simp))).mono HB1.out.size)⟩
            | true =>
              by_cases hw1 : wd = 1
              case pos =>
                subst hw1
                have HE := hide (HO1.out rfl HSC.out)
                clear HO1 HO2 HO0 HOW HOS
                go_wp2_with (first | (go_at_call 88; refine (HSt.out _).mono ?_; rintro e w2 ⟨rfl, hb2⟩; have HB2 := hide (HBd.out.trans (hb2.mono (by simp))); obtain ⟨k1, k2, q0, q1, q2, q3, q4, q5⟩ := HF.out w2 HB2.out) | fail)
                clear f1 f2 p0 p1 p2 p3 p4 p5
                go_region_held3 (fun W => W.cell? ⟨wr.heap.size, 0, none⟩ = some (.int .i32 r) ∧ W.cell? ⟨wr.heap.size, 1, none⟩ = some (.int .i64 1))
                  (first | exact ⟨q0, q1⟩ | exact ⟨kcG hb3 q0, kcG hb3 q1⟩)
                  (first | (go_at_call 62; refine (HOf.out _).mono ?_; rintro e w3 ⟨rfl, hb3⟩) | fail)
                have HB3 := hide (HB2.out.trans (((Below.refl w2.heap.size w2).drew.trans (hb3.mono (by simp))).mono HB2.out.size))
                obtain ⟨f1, f2, p0, p1, p2, p3, p4, p5⟩ := HF.out w3 HB3.out
                clear k1 k2 q0 q1 q2 q3 q4 q5 hb3 hb2
                by_cases hc1 : cr = 1
                · have HS2 := hide (HST.out (by rw [HE.out, decide_eq_true (HCR.out.trans hc1)]))
                  go_wp2
                  go_region
                  all_goals go_wp2
                  go_roundw
                  case rel => exact ⟨i + 1, by go_num, by omega, HS2, hide (HBKx.out.below HB3.out.drew), hide (below_drewG (HB1.out.trans (HB3.out.mono HB1.out.size)) _)⟩
                  case measure => simp [intOf]; omega
                · have HV2 := hide (HBD.out (by rw [HE.out, decide_eq_false (fun h => hc1 (HCR.out.symm.trans h))]))
                  go_wp2
                  go_ret
                  exact ⟨ret_bG (by rw [HV.out, HV2.out]), HB1.out.trans (HB3.out.mono HB1.out.size)⟩
              case neg =>
              by_cases hw2 : wd = 2
              case pos =>
                subst hw2
                have HE := hide (HO2.out rfl HSC.out)
                clear HO1 HO2 HO0 HOW HOS hw1
                go_wp2_with (first | (go_at_call 88; refine (HSt.out _).mono ?_; rintro e w2 ⟨rfl, hb2⟩; have HB2 := hide (HBd.out.trans (hb2.mono (by simp))); obtain ⟨k1, k2, q0, q1, q2, q3, q4, q5⟩ := HF.out w2 HB2.out) | fail)
                clear f1 f2 p0 p1 p2 p3 p4 p5
                go_region_held3 (fun W => W.cell? ⟨wr.heap.size, 0, none⟩ = some (.int .i32 r) ∧ W.cell? ⟨wr.heap.size, 1, none⟩ = some (.int .i64 2))
                  (first | exact ⟨q0, q1⟩ | exact ⟨kcG hb3 q0, kcG hb3 q1⟩)
                  (first | (go_at_call 62; refine (HOf.out _).mono ?_; rintro e w3 ⟨rfl, hb3⟩) | fail)
                have HB3 := hide (HB2.out.trans (((Below.refl w2.heap.size w2).drew.trans (hb3.mono (by simp))).mono HB2.out.size))
                obtain ⟨f1, f2, p0, p1, p2, p3, p4, p5⟩ := HF.out w3 HB3.out
                clear k1 k2 q0 q1 q2 q3 q4 q5 hb3 hb2
                by_cases hc1 : cr = 2
                case neg =>
                  have HV2 := hide (HBD.out (by rw [HE.out, decide_eq_false (fun h => hc1 (HCR.out.symm.trans h)), Bool.false_and]))
                  go_wp2
                  go_ret
                  exact ⟨ret_bG (by rw [HV.out, HV2.out]), HB1.out.trans (HB3.out.mono HB1.out.size)⟩
                case pos =>
                  by_cases hl : a = C - 1
                  · have hli : (a : Int) = (C : Int) - 1 := by omega
                    have HV2 := hide (HBD.out (by rw [HE.out, if_pos (HAA.out.trans hl), Option.any_none, Bool.and_false]))
                    clear hl
                    go_wp2
                    go_ret
                    exact ⟨ret_bG (by rw [HV.out, HV2.out]), HB1.out.trans (HB3.out.mono HB1.out.size)⟩
                  · have hli : ¬ (a : Int) = (C : Int) - 1 := by omega
                    have hin : i + 1 < n := by rw [HNRC.out]; exact next_in (by rw [← HNRC.out]; exact hlt) (by omega) (by rw [HAA.out]; exact hl)
                    obtain ⟨d, hd⟩ : ∃ d, cs[i + 1]? = some d := ⟨_, List.getElem?_eq_getElem (show i + 1 < cs.length by rw [HN.out]; exact hin)⟩
                    have HE2 := hide (show okAt cs C i ⟨r, 2, fg, bo, un, iv⟩ = decide (d.w = 0) by rw [HE.out, decide_eq_true (HCR.out.trans hc1), if_neg (by rw [HAA.out]; exact hl), hd]; simp)
                    obtain ⟨b', o', e, -, -, g1, -, -, -, -⟩ := ClsAt.at (show ClsAt w3 _ _ from HCL.out.below (HB1.out.trans (HB3.out.mono HB1.out.size))) hd
                    injection e with e
                    injection e with e1 e2
                    subst e1 e2
                    clear hd hl
                    have hi1 : (i : Int) + 1 < (n : Int) := by omega
                    by_cases hz : d.w = 0
                    · have HS2 := hide (HST.out (by rw [HE2.out, decide_eq_true hz]))
                      rw [hz] at g1
                      go_wp2
                      go_region
                      all_goals go_wp2
                      go_roundw
                      case rel => exact ⟨i + 1, by go_num, by omega, HS2, hide (HBKx.out.below HB3.out.drew), hide (below_drewG (HB1.out.trans (HB3.out.mono HB1.out.size)) _)⟩
                      case measure => simp [intOf]; omega
                    · have HV2 := hide (HBD.out (by rw [HE2.out, decide_eq_false hz]))
                      obtain ⟨dw, hdw⟩ : ∃ x, d.w = x := ⟨_, rfl⟩
                      rw [hdw] at g1 hz
                      have hzb : (dw != 0) = true := by simp [hz]
                      go_wp2
                      go_ret
                      exact ⟨ret_bG (by rw [HV.out, HV2.out]), HB1.out.trans (HB3.out.mono HB1.out.size)⟩
              case neg =>
              by_cases hw0 : wd = 0
              case pos =>
                subst hw0
                have HE := hide (HO0.out rfl HSC.out)
                clear HO1 HO2 HO0 HOW HOS hw1 hw2
                by_cases ha0 : a = 0
                case pos =>
                  have hai : (a : Int) = 0 := by omega
                  have HV2 := hide (HBD.out (by rw [HE.out, if_pos (HAA.out.trans ha0), Option.any_none]))
                  clear ha0
                  go_wp2_with (first | (go_at_call 88; refine (HSt.out _).mono ?_; rintro e w2 ⟨rfl, hb2⟩; have HB2 := hide (HBd.out.trans (hb2.mono (by simp))); obtain ⟨k1, k2, q0, q1, q2, q3, q4, q5⟩ := HF.out w2 HB2.out) | fail)
                  clear f1 f2 p0 p1 p2 p3 p4 p5
                  go_region
                  go_wp2
                  go_region
                  all_goals go_wp2
                  go_ret
                  exact ⟨ret_bG (by rw [HV.out, HV2.out]), below_drewG (below_drewG (HB1.out.trans (HB2.out.mono HB1.out.size)) 1) _⟩
                case neg =>
                  obtain ⟨i', rfl⟩ : ∃ i', i = i' + 1 := ⟨i - 1, by have := HAA.out; rcases Nat.eq_zero_or_pos i with e | e; rw [e, Nat.zero_mod] at this; omega; omega⟩
                  have hai : ¬ (a : Int) = 0 := by omega
                  have haib : ((a : Int) == 0) = false := by simp; omega
                  obtain ⟨d, hd⟩ : ∃ d, cs[i']? = some d := ⟨_, List.getElem?_eq_getElem (show i' < cs.length by rw [HN.out]; omega)⟩
                  have HE2 := hide (show okAt cs C (i' + 1) ⟨r, 0, fg, bo, un, iv⟩ = (decide (d.w = 2) && decide (r = 0) && styE ⟨0, 0, fg, bo, un, iv⟩ ⟨0, 0, d.fg, d.bo, d.un, d.iv⟩) by rw [HE.out, if_neg (by rw [HAA.out]; exact ha0), Nat.add_sub_cancel, hd, Option.any_some]; rfl)
                  have HD := hide (fun W (hW : Below w.heap.size w W) => ClsAt.at (show ClsAt W _ _ from HCL.out.below hW) hd)
                  clear hd ha0
                  go_wp2_with (first | (go_at_call 88; refine (HSt.out _).mono ?_; rintro e w2 ⟨rfl, hb2⟩; have HB2 := hide (HBd.out.trans (hb2.mono (by simp))); obtain ⟨k1, k2, q0, q1, q2, q3, q4, q5⟩ := HF.out w2 HB2.out) | fail)
                  have HB3 := hide HB2.out.drew
                  clear f1 f2 p0 p1 p2 p3 p4 p5
                  go_region
                  obtain ⟨w3, hw3⟩ : ∃ w3, w2.drew = w3 := ⟨_, rfl⟩
                  rw [hw3] at HB3 ⊢
                  clear hw3 k1 k2 q0 q1 q2 q3 q4 q5
                  obtain ⟨f1, f2, p0, p1, p2, p3, p4, p5⟩ := HF.out w3 HB3.out
                  obtain ⟨b', o', e, -, e0, e1, e2, e3, e4, e5⟩ := HD.out w3 (HB1.out.trans (HB3.out.mono HB1.out.size))
                  injection e with e
                  injection e with ea eb
                  subst ea eb
                  obtain ⟨r', wd', fg', bo', un', iv'⟩ := d
                  dsimp only at e0 e1 e2 e3 e4 e5
                  have hi0 : (i' : Int) < (n : Int) := by omega
                  by_cases hp : wd' = 2
                  case neg =>
                    have hpb : (wd' != 2) = true := by simp [hp]
                    have HV2 := hide (HBD.out (by rw [HE2.out, decide_eq_false hp]; simp))
                    go_wp2
                    go_region
                    all_goals go_wp2
                    go_ret
                    exact ⟨ret_bG (by rw [HV.out, HV2.out]), below_drewG (HB1.out.trans (HB3.out.mono HB1.out.size)) _⟩
                  case pos =>
                  by_cases hr0 : r = 0
                  case neg =>
                    have hrb : (r != 0) = true := by simp [hr0]
                    subst hp
                    have HV2 := hide (HBD.out (by rw [HE2.out, decide_eq_false hr0]; simp))
                    go_wp2
                    go_region
                    all_goals go_wp2
                    go_ret
                    exact ⟨ret_bG (by rw [HV.out, HV2.out]), below_drewG (HB1.out.trans (HB3.out.mono HB1.out.size)) _⟩
                  case pos =>
                    subst hp hr0
                    cases hse : styE ⟨0, 0, fg, bo, un, iv⟩ ⟨0, 0, fg', bo', un', iv'⟩ with
                    | true =>
                      have HS2 := hide (HST.out (by rw [HE2.out, hse]; simp))
                      go_wp2
                      go_region
                      all_goals go_wp2
                      go_roundw
                      case rel => exact ⟨i' + 1 + 1, by go_num, by omega, HS2, hide (HBKx.out.below HB3.out.drew), hide (below_drewG (HB1.out.trans (HB3.out.mono HB1.out.size)) _)⟩
                      case measure => simp [intOf]; omega
                    | false =>
                    have HV2 := hide (HBD.out (by rw [HE2.out, hse]; simp))
                    go_wp2
                    go_region
                    all_goals go_wp2
                    go_ret
                    exact ⟨ret_bG (by rw [HV.out, HV2.out]), below_drewG (HB1.out.trans (HB3.out.mono HB1.out.size)) _⟩
              case neg =>
                have HV2 := hide (HBD.out (HOW.out (by first | omega | (dsimp only; omega))))
                clear HO1 HO2 HO0 HOW HOS HST HBD
                by_cases hneg : wd < 0
                · go_wp2_with (first | (go_at_call 88; refine (HSt.out _).mono ?_; rintro e w2 ⟨rfl, hb2⟩; have HB2 := hide (HBd.out.trans (hb2.mono (by simp))); obtain ⟨k1, k2, q0, q1, q2, q3, q4, q5⟩ := HF.out w2 HB2.out) | fail)
                  go_ret
                  exact ⟨ret_bG (by rw [HV.out, HV2.out]), HB1.out.trans (HB2.out.mono HB1.out.size)⟩
                · have hbig : 2 < wd := by omega
                  go_wp2_with (first | (go_at_call 88; refine (HSt.out _).mono ?_; rintro e w2 ⟨rfl, hb2⟩; have HB2 := hide (HBd.out.trans (hb2.mono (by simp))); obtain ⟨k1, k2, q0, q1, q2, q3, q4, q5⟩ := HF.out w2 HB2.out) | fail)
                  go_ret
                  exact ⟨ret_bG (by rw [HV.out, HV2.out]), HB1.out.trans (HB2.out.mono HB1.out.size)⟩
          · obtain rfl : i = n := by omega
            have HV2 := hide (okK_all (R := R) (C := C) (by omega) (by rw [HN.out, HNRC.out]) (by rw [HN.out]; exact HOK.out))
            have f1 := HBK.out.cell (i := 1) rfl
            have f2 := HBK.out.cell (i := 2) rfl
            go_wp2
            go_ret
            exact ⟨ret_bG (by rw [HV.out, HV2.out]), HB.out⟩
end Go.Proofs.YtmemdhmjhckmaaaDoor
