/- Contract of limnerref07.Params. Contract of limnerref07.Feed. -/
import Derived.Test.YtmemdhmjhckmaaaDoorZ9
import Derived.Deep.QuietTactic
import Derived.BigQuiet
import Derived.BigRegion
import Derived.RegionTactic
import Derived.ChangeAlike
import Derived.Test.YtmemdhmjhckmaaaDoorZ12
namespace Go.Proofs.YtmemdhmjhckmaaaDoor
open Go.RowKit
set_option maxRecDepth 100000

def ints (l : List Int) : List Value := l.map (Value.int .i64)
theorem ints_app (l m : List Int) : ints (l ++ m) = ints l ++ ints m := by simp [ints]
theorem ints_len (l : List Int) : (ints l).length = l.length := by simp [ints]
theorem info_intA : (Tryd.prog.info? 3).map (fun i => (i.zero, i.size, i.bytes)) = some (some (.int .i64 0), 1, 8) := by kernel_rfl
/-- A row of numbers reads as them. -/
theorem nums_of_own {W : World} {B : Nat} {v : Value} {l : List Int} (h : W.ownsRow B 3 1 v l.length (ints l)) : NumsV W v l := by
  have h0 := h
  rcases h.2 with ⟨rfl, hz⟩ | ⟨g, cap, cur, rfl, hg, hh, h1, h2, h3, h4⟩
  · obtain rfl := List.length_eq_zero_iff.1 hz
    exact NumsV.nil W
  · refine ⟨some ⟨g, 0, none⟩, cap, rfl, fun j x hx => ⟨g, 0, rfl, ⟨_, _, hh⟩, ?_⟩⟩
    have hj := (List.getElem?_eq_some_iff.1 hx).1
    rw [Nat.zero_add, h0.cellAt j (by omega)]
    simp [ints, hx]
theorem own_succA {W : World} {B : Nat} {e : TypeId} {k n : Nat} {v : Value} {xs : List Value} (h : W.ownsRow B e k v (n + 1) xs) : ∃ g cap, v = .slice (some ⟨g, 0, none⟩) (n + 1) cap := by
  rcases h.2 with ⟨_, h0⟩ | ⟨g, cap, cur, rfl, _⟩
  · omega
  · exact ⟨g, cap, rfl⟩
def ParPost (w : World) : Option (List Int) → Ending → World → Prop
  | some l, e, w' => ∃ v, e = .returned (.tuple #[v, .bool true]) ∧ NumsV w' v l ∧ Below w.heap.size w w'
  | none, e, w' => ∃ v, e = .returned (.tuple #[v, .bool false]) ∧ Below w.heap.size w w'
theorem pgo_semi {c : UInt8} {r : List UInt8} {d : List Int} {n : Int} (h : c.toNat = 59) : pgo (c :: r) d n = pgo r (d ++ [n]) 0 := by simp only [pgo]; rw [if_pos h]
theorem pgo_digit {c : UInt8} {r : List UInt8} {d : List Int} {n : Int} (h : 48 ≤ c.toNat) (h1 : c.toNat ≤ 57) : pgo (c :: r) d n = pgo r d (min (10 * n + ((c.toNat : Int) - 48)) 9999) := by simp only [pgo]; rw [if_neg (by omega), if_pos ⟨h, h1⟩]
theorem pgo_bad {c : UInt8} {r : List UInt8} {d : List Int} {n : Int} (h : c.toNat ≠ 59) (h1 : c.toNat < 48 ∨ 57 < c.toNat) : pgo (c :: r) d n = none := by simp only [pgo]; rw [if_neg h, if_neg (by omega)]
theorem drop_byte {s : ByteArray} {k : Nat} (h : k < s.size) : s.data.toList.drop k = s[k] :: s.data.toList.drop (k + 1) := by
  rw [List.drop_eq_getElem_cons (by simpa using h)]
  rfl
theorem params_of {s : ByteArray} (h : 0 < s.size) : params s = (pgo s.data.toList [] 0).bind few := by unfold params; rw [if_neg (by omega)]

set_option maxHeartbeats 2000000 in
theorem rparams_any (s : ByteArray) (w : World) (hs : s.size ≤ 100000) :
    Calls Tryd.prog 61 #[.string s] w (ParPost w (params s)) := by
  by_cases h0 : s.size = 0
  · obtain rfl := size0 h0
    go_enter Tryd.func61, Tryd.ntmps61
    go_wp2
    go_ret2
    exact ⟨_, rfl, NumsV.nil _, Below.refl _ _⟩
  obtain ⟨i0, hi, hz0, hz1, hz2⟩ := info_parts info_intA
  rw [params_of (by omega)]
  have hl : s.toList.isEmpty = false := by
    rw [ByteArray.toList_eq]
    cases hh : s.data.toList with
    | nil => exfalso; exact h0 (by show s.data.size = 0; rw [← Array.length_toList, hh]; rfl)
    | cons a l => rfl
  have h00 : w.heap.size ≤ w.heap.size := Nat.le_refl _
  have hlit : (w.alloc (.cells #[.int .i64 0] 3)).ownsRow w.heap.size 3 1 (.slice (some ⟨w.heap.size, 0, none⟩) 1 1) 1 (ints [0]) :=
    ⟨rfl, .inr ⟨w.heap.size, 1, #[.int .i64 0], rfl, Nat.le_refl _, heap_alloc_new w _, Nat.le_refl _, by unfold maxLen; omega, rfl, rfl⟩⟩
  have HLit := hide hlit
  obtain ⟨o, ho⟩ : ∃ o, (pgo s.data.toList [] 0).bind few = o := ⟨_, rfl⟩
  rw [ho]
  have HO := hide ho
  clear hlit ho
  go_enter Tryd.func61, Tryd.ntmps61
  go_wp2
  go_loopw [4, 5] (fun v i wr => ∃ (k : Nat) (d : List Int) (n : Int), k ≤ s.size ∧ i = .int .i64 k ∧ wr.ownsRow w.heap.size 3 1 v (d.length + 1) (ints (d ++ [n])) ∧ Hid (pgo (s.data.toList.drop k) d n = pgo s.data.toList [] 0) ∧ 0 ≤ n ∧ n ≤ 9999 ∧ d.length ≤ k ∧ Below w.heap.size w wr) (fun _ i _ => s.size - (intOf i).toNat)
  case atStart => exact ⟨0, [], 0, by omega, rfl, HLit.out, hide (by simp), by omega, by omega, by simp, (Below.refl _ _).alloc (Nat.le_refl _) _⟩
  case round =>
    obtain ⟨k, d, n, hk, rfl, hown, HP, hn0, hn1, hdk, hB⟩ := hrel
    clear hl
    by_cases hlt : k < s.size
    · have HD := hide (drop_byte hlt)
      have hbs := hB.size
      obtain ⟨c, hc⟩ : ∃ c, s[k] = c := ⟨_, rfl⟩
      rw [hc] at HD
      have hcl := c.toNat_lt
      by_cases h59 : c.toNat = 59
      · have ht : (((c.toNat : Int)) == 59) = true := by simp; omega
        have HS := hide (pgo_semi (r := s.data.toList.drop (k + 1)) (d := d) (n := n) h59)
        rw [← HD.out, HP.out] at HS
        have HB := hide hB
        clear hB HP HD h59
        go_wp2_with (first
          | (at_builtin; refine wpList_append_own _ rfl _ _ 44 rfl w.heap.size 3 i0 (.int .i64 0) 1 8 Tryd.underlying44 hi hz0 hz1 hz2 rfl (by decide) _ _ _ rfl (hown.alloc _) ⟨wr.heap.size, 0, none⟩ 1 1 [.int .i64 0] rfl rfl (cell_one_new _ _ _) (by simp [Value.oneCell']) (by unfold maxLen; omega) (by omega) (by simp; omega) ?_; intro v' w1 hown1 hgrow1 _)
          | fail)
        have h1 : Below w.heap.size w w1 := (HB.out.alloc hbs _).grown hgrow1 (by simp; omega) (fun k e => (hown.lt k e).1)
        have H1 := hide h1
        have HW1 := hide hown1
        clear h1 hown hown1 hgrow1
        go_roundw
        case rel => exact ⟨k + 1, d ++ [n], 0, by omega, by go_num, by rw [ints_app, List.length_append]; exact HW1.out, hide HS.out.symm, by omega, by omega, by simp; omega, H1.out⟩
        case measure => simp [intOf]; omega
      · have ht : (((c.toNat : Int)) == 59) = false := by simp; omega
        by_cases hd : 48 ≤ c.toNat ∧ c.toNat ≤ 57
        · obtain ⟨hd1, hd2⟩ := hd
          have t1 : (48 : Int) ≤ (c.toNat : Int) := by omega
          have t2 : (c.toNat : Int) ≤ 57 := by omega
          have HS := hide (pgo_digit (r := s.data.toList.drop (k + 1)) (d := d) (n := n) hd1 hd2)
          rw [← HD.out, HP.out] at HS
          obtain ⟨m, hm⟩ : ∃ m, d.length = m := ⟨_, rfl⟩
          have HM := hide hm
          rw [hm] at hown hdk
          obtain ⟨g, cap, rfl⟩ := own_succA hown
          have hcell := hown.cellAt m (by omega)
          rw [show (ints (d ++ [n]))[m]? = some (.int .i64 n) by rw [ints_app, List.getElem?_append_right (by rw [ints_len]; omega), ints_len, hm, Nat.sub_self]; rfl] at hcell
          have hfro := hown.frozenAt m
          obtain ⟨q, hq⟩ : ∃ q, m + 1 = q := ⟨_, rfl⟩
          rw [hq] at hown ⊢
          have hqm : (m : Int) < (q : Int) := by omega
          have hqk : q ≤ 100000 := by omega
          have hm0 : (0 : Int) ≤ (m : Int) := by omega
          obtain ⟨x, hx⟩ : ∃ x : Int, (c.toNat : Int) - 48 = x := ⟨_, rfl⟩
          obtain ⟨y, hy⟩ : ∃ y : Int, n * 10 = y := ⟨_, rfl⟩
          obtain ⟨z, hz⟩ : ∃ z : Int, y + x = z := ⟨_, rfl⟩
          have e1 : IntKind.i64.wrap ((q : Int) - 1) = (m : Int) := by rw [Go.wrap_small _ (by omega) (by omega)]; omega
          have e2 : IntKind.u8.wrap ((c.toNat : Int) - 48) = x := by rw [hx]; simp [IntKind.wrap_u8]; omega
          have e3 : IntKind.i64.wrap (n * 10) = y := by rw [hy]; exact Go.wrap_small _ (by omega) (by omega)
          have e4 : IntKind.i64.wrap (y + x) = z := by rw [hz]; exact Go.wrap_small _ (by omega) (by omega)
          have e5 : IntKind.i64.wrap x = x := Go.wrap_small _ (by omega) (by omega)
          have hx0 : 0 ≤ x := by omega
          have hx1 : x ≤ 9 := by omega
          have HX := hide (show 10 * n + ((c.toNat : Int) - 48) = z by omega)
          have HZ := hide (show 0 ≤ z by omega)
          have HQ := hide hq
          have HB := hide hB
          have HO2 := hide hown
          clear hB HP HD h59 hm hown hq hx hy hz
          go_wp2
          go_region
          have R : ((wr.setCell ⟨g, m, none⟩ (.int .i64 (if 9999 < z then 9999 else z))).drew).ownsRow w.heap.size 3 1 (.slice (some ⟨g, 0, none⟩) q cap) (d.length + 1) (ints (d ++ [if 9999 < z then 9999 else z])) ∧ Below w.heap.size w (wr.setCell ⟨g, m, none⟩ (.int .i64 (if 9999 < z then 9999 else z))).drew := by
            have h9 := (HO2.out.stored m (.int .i64 (if 9999 < z then 9999 else z))).1
            have hb9 : w.heap.size ≤ g := (HO2.out.lt g rfl).1
            have e9 : (ints (d ++ [n])).set m (.int .i64 (if 9999 < z then 9999 else z)) = ints (d ++ [if 9999 < z then 9999 else z]) := by
              rw [ints_app, List.set_append_right _ _ (by rw [ints_len, HM.out]; exact Nat.le_refl _), ints_len, HM.out, Nat.sub_self, ints_app]
              rfl
            rw [e9] at h9
            rw [HM.out, HQ.out]
            exact ⟨h9, (HB.out.setCell (p := ⟨g, m, none⟩) hb9 _).drew⟩
          have HR := hide R
          have HS2 := hide (show pgo (s.data.toList.drop (k + 1)) d (if 9999 < z then 9999 else z) = pgo s.data.toList [] 0 by rw [HS.out, HX.out]; congr 1; rw [Int.min_def]; split <;> split <;> omega)
          clear R HO2 hcell hfro e1 e2 e3 e4 e5 HS
          go_wp2
          go_roundw
          case rel =>
            (try rw [show min z 9999 = (if 9999 < z then 9999 else z) by rw [Int.min_def]; split <;> split <;> omega])
            exact ⟨k + 1, d, _, by omega, by go_num, HR.out.1, HS2.out, by have := HZ.out; split <;> omega, by split <;> omega, by have := HM.out; omega, HR.out.2⟩
          case measure => simp [intOf]; omega
        · have HS := hide (pgo_bad (r := s.data.toList.drop (k + 1)) (d := d) (n := n) h59 (by omega))
          rw [← HD.out, HP.out] at HS
          have hn : o = none := by rw [← HO.out, HS.out]; rfl
          subst hn
          have HB := hide hB
          by_cases h48 : 48 ≤ c.toNat
          · have t1 : (48 : Int) ≤ (c.toNat : Int) := by omega
            have t2 : ¬ (c.toNat : Int) ≤ 57 := by omega
            clear hB HP HD h59 hown HS
            go_wp2
            go_ret2
            exact ⟨_, rfl, HB.out⟩
          · have t1 : ¬ (48 : Int) ≤ (c.toNat : Int) := by omega
            clear hB HP HD h59 hown HS
            go_wp2
            go_ret2
            exact ⟨_, rfl, HB.out⟩
    · obtain rfl : k = s.size := by omega
      have HP2 := HP.out
      rw [List.drop_of_length_le (by show s.data.toList.length ≤ s.size; rw [Array.length_toList]; exact Nat.le_refl _)] at HP2
      have ho := HO.out
      rw [← HP2] at ho
      simp only [pgo, Option.bind_some] at ho
      have hlen : (d ++ [n]).length = d.length + 1 := by simp
      rw [← hlen] at hown
      have hnum := nums_of_own hown
      obtain ⟨A, c, e, hcs⟩ := hnum
      subst e
      have HN : Hid (NumsV wr (.slice A (d ++ [n]).length c) (d ++ [n])) := hide ⟨A, c, rfl, hcs⟩
      rw [hlen] at HN
      obtain ⟨m, hm⟩ : ∃ m, d.length + 1 = m := ⟨_, rfl⟩
      rw [hlen, hm]
      rw [hm] at HN
      have HB := hide hB
      have hm1 : m ≤ 1000000 := by omega
      by_cases hf : m ≤ 16
      · have t1 : ¬ (16 : Int) < (m : Int) := by omega
        have hx : o = some (d ++ [n]) := by rw [← ho]; unfold few; rw [if_pos (by omega)]
        subst hx
        clear hB hown hcs ho HP2 HO HP hm hlen
        go_wp2
        go_ret2
        exact ⟨_, rfl, HN.out, HB.out⟩
      · have t1 : (16 : Int) < (m : Int) := by omega
        have hx : o = none := by rw [← ho]; unfold few; rw [if_neg (by omega)]
        subst hx
        clear hB hown hcs ho HP2 HO HP hm hlen
        go_wp2
        go_ret2
        exact ⟨_, rfl, HB.out⟩
end Go.Proofs.YtmemdhmjhckmaaaDoor
namespace Go.Proofs.YtmemdhmjhckmaaaDoor
open Go.RowKit
set_option maxRecDepth 100000

theorem par_some {w : World} {o : Option (List Int)} {l : List Int} {f : FuncId} {args : Array Value} (h : Calls Tryd.prog f args w (ParPost w o)) (e : o = some l) : Calls Tryd.prog f args w fun e w' => ∃ v, e = .returned (.tuple #[v, .bool true]) ∧ NumsV w' v l ∧ Below w.heap.size w w' := by
  subst e; exact h
theorem par_none {w : World} {o : Option (List Int)} {f : FuncId} {args : Array Value} (h : Calls Tryd.prog f args w (ParPost w o)) (e : o = none) : Calls Tryd.prog f args w fun e w' => ∃ v, e = .returned (.tuple #[v, .bool false]) ∧ Below w.heap.size w w' := by
  subst e; exact h
theorem seq_27 (a : Nat) (t : ByteArray) : inSeq a t 27 = ((2, ⟨#[]⟩), [inv]) := rfl
theorem seq_24 (a : Nat) (t : ByteArray) : inSeq a t 24 = ((0, ⟨#[]⟩), [inv]) := rfl
theorem seq_26 (a : Nat) (t : ByteArray) : inSeq a t 26 = ((0, ⟨#[]⟩), [inv]) := rfl
theorem seq_ctl {a : Nat} {t : ByteArray} {x : Int} (h1 : x ≠ 27) (h2 : x ≠ 24) (h3 : x ≠ 26) (h : x < 32) : inSeq a t x = ((a, t), [⟨2, x, [], 0⟩]) := by unfold inSeq; rw [if_neg h1, if_neg (by omega), if_pos h]
theorem seq2_br (t : ByteArray) : inSeq 2 t 91 = ((3, ⟨#[]⟩), []) := rfl
theorem seq2_esc {t : ByteArray} {x : Int} (h : 48 ≤ x) (h1 : x < 127) (h2 : x ≠ 91) : inSeq 2 t x = ((0, ⟨#[]⟩), [⟨4, 0, [], x⟩]) := by unfold inSeq; rw [if_neg (by omega), if_neg (by omega), if_neg (by omega), if_pos rfl, if_neg h2, if_pos ⟨h, h1⟩]
theorem seq2_bad {t : ByteArray} {x : Int} (h : 32 ≤ x) (h1 : x < 48 ∨ 127 ≤ x) : inSeq 2 t x = ((0, ⟨#[]⟩), [inv]) := by unfold inSeq; rw [if_neg (by omega), if_neg (by omega), if_neg (by omega), if_pos rfl, if_neg (by omega), if_neg (by omega)]
theorem seq3_more {t : ByteArray} {x : Int} (h : 32 ≤ x) (h1 : x < 64) : inSeq 3 t x = ((3, t ++ strOfNums [x]), []) := by unfold inSeq; rw [if_neg (by omega), if_neg (by omega), if_neg (by omega), if_neg (by omega), if_pos h1]
theorem seq3_ok {t : ByteArray} {x : Int} {l : List Int} (h : 64 ≤ x) (h1 : x < 127) (hp : params t = some l) : inSeq 3 t x = ((0, ⟨#[]⟩), [⟨3, 0, l, x⟩]) := by unfold inSeq; rw [if_neg (by omega), if_neg (by omega), if_neg (by omega), if_neg (by omega), if_neg (by omega), if_pos h1, hp]; rfl
theorem seq3_no {t : ByteArray} {x : Int} (h : 64 ≤ x) (h1 : x < 127) (hp : params t = none) : inSeq 3 t x = ((0, ⟨#[]⟩), [inv]) := by unfold inSeq; rw [if_neg (by omega), if_neg (by omega), if_neg (by omega), if_neg (by omega), if_neg (by omega), if_pos h1, hp]; rfl
theorem seq3_high {t : ByteArray} {x : Int} (h : 127 ≤ x) : inSeq 3 t x = ((0, ⟨#[]⟩), [inv]) := by unfold inSeq; rw [if_neg (by omega), if_neg (by omega), if_neg (by omega), if_neg (by omega), if_neg (by omega), if_neg (by omega)]
/-- The text handed back, by its equation. -/
theorem feed_mk {w : World} {u : ByteArray} {L : List Ac} {v : Value} {W : World} {s : ByteArray} (e : s = u) (h : ActsV W v L) (hb : Below w.heap.size w W) : FeedPost w (.string u) L (.returned (.tuple #[.string s, v])) W := by
  subst e; exact ⟨v, rfl, h, hb⟩

set_option maxHeartbeats 1000000 in
theorem rfeed0_any (x : Int) (w : World) (h0 : 0 ≤ x) (h1 : x ≤ 255) :
    Calls Tryd.prog 31 #[.string ⟨#[]⟩, .int .u8 x] w (FeedPost w (.string (tOf (ground x).1)) (ground x).2) := by
  go_enter Tryd.func31, Tryd.ntmps31
  go_wp2_with (go_at_call 56; refine (rground_any x _ h0 h1).mono ?_; rintro e w1 ⟨v, rfl, ha, hb⟩; have HA := hide ha; have HB := hide hb; clear ha hb)
  go_ret2
  exact ⟨_, rfl, HA.out, HB.out⟩


set_option maxRecDepth 100000 in
set_option maxHeartbeats 2000000 in
theorem rfeed1_any (t : ByteArray) (x : Int) (w : World) (ht0 : 0 < t.size) (ht : t.size ≤ 3) (hb0 : 128 ≤ (t.get! 0).toNat) (h0 : 0 ≤ x) (h1 : x ≤ 255) :
    Calls Tryd.prog 31 #[.string t, .int .u8 x] w (FeedPost w (.string (tOf (inRune t x).1)) (inRune t x).2) := by
  have c1 := conv_1
  have hl := str_nonempty ht0
  have ht1 : (t.size : Int) ≤ 3 := by omega
  have o1 : ((strOfNums [x]).size : Int) ≤ 1 := by rw [one_size]; omega
  obtain ⟨x0, hx0⟩ : ∃ x0, t.get! 0 = x0 := ⟨_, rfl⟩
  have hs0 : t[0]'ht0 = x0 := by rw [← hx0]; exact (get_of ht0).symm
  rw [hx0] at hb0
  clear hx0
  have n27 : ((x0.toNat : Int) != 27) = true := by simp; omega
  obtain ⟨s, hs⟩ : ∃ s, t ++ strOfNums [x] = s := ⟨_, rfl⟩
  have hz : s.size = t.size + 1 := by rw [← hs, join_size, one_size]
  have hz2 : s.size ≤ 1048576 := by omega
  have hz3 : 0 < s.size := by omega
  have HS := hide hs
  have H3 := hide ((Below.refl w.heap.size w).alloc (Nat.le_refl _) (.cells #[.int .u8 x] 5))
  have HW := hide (fun W => whole_any s W hz2 hz3)
  have HN := hide (fun W b hb => rnext_0 s W hz2 hz3 b hb)
  have HBE := hide (fun W => rbegins_any s W (by omega))
  clear hz hz2 hz3
  cases hw : wholeB s
  · rw [hw] at HW
    cases hbg : begB s
    · rw [inRune_bad hs hw hbg]
      rw [hbg] at HBE
      have hl2 : ([inv] : List Ac).length + (ground x).2.length ≤ 1000000 := by have := ground_few x; simp; omega
      have HF := hide (fun W => rground_any x W h0 h1)
      obtain ⟨⟨⟨ga, gt⟩, gl⟩, hg⟩ : ∃ g, ground x = g := ⟨_, rfl⟩
      rw [hg] at HF hl2 ⊢
      obtain ⟨gu, hgu⟩ : ∃ gu, tOf (ga, gt) = gu := ⟨_, rfl⟩
      replace HF : Hid (∀ W, Calls Tryd.prog 56 #[.int .u8 x] W (FeedPost W (.string (tOf (ga, gt))) gl)) := HF
      rw [hgu] at HF
      show Calls _ _ _ _ (FeedPost w (.string (tOf (ga, gt))) (inv :: gl))
      rw [hgu]
      have HLen := hide hl2
      clear hl2 hs hw hbg hg hgu
      go_enter Tryd.func31, Tryd.ntmps31
      go_wp2_with (first
        | (go_at_call 57; rw [HS.out]; refine (HW.out _).mono ?_; rintro e w1 ⟨rfl, hb1⟩; clear HW; replace H3 := hide (H3.out.trans (hb1.mono (by simp))); clear hb1)
        | (go_at_call 60; refine (HBE.out _).mono ?_; rintro e w2 ⟨rfl, hb1⟩; clear HBE; replace H3 := hide (H3.out.trans (hb1.mono H3.out.size)); clear hb1)
        | (go_at_call 56; refine (HF.out _).mono ?_; rintro e w3 ⟨fv, rfl, hacts, hb1⟩; replace H3 := hide (H3.out.trans (hb1.mono H3.out.size)); clear hb1; have HAC := hide hacts; clear hacts)
        | (go_at_call 59; refine (one_any _ _ _).mono ?_; rintro e w5 ⟨rfl, rfl⟩)
        | (at_builtin; refine wpList_acts _ rfl _ _ 74 77 (.agg #[.int .i64 0, .int .i32 0, .slice none 0 0, .int .u8 0]) rfl w3.heap.size (by simp) Tryd.underlying74 (by decide) info_acR (by rfl) _ fv [inv] gl rfl rfl (OwnA.lit (x := (.slice none 0 0, inv)) (Nat.le_refl _) (heap_alloc_new w3 _) (NumsV.nil _)) (HAC.out.below ((Below.refl _ _).alloc (Nat.le_refl _) _)) HLen.out ?_; intro v6 w6 ho6 hb6 hv6; have H6 := hide ((H3.out.alloc H3.out.size (.cells #[.int .i64 5, .int .i32 0, .slice none 0 0, .int .u8 0] 77)).trans (hb6.mono H3.out.size)); have HO6 := hide ho6; clear ho6 hb6 hv6)
        | fail)
      go_ret2
      exact feed_mk rfl (HO6.out.acts (fun e => by cases e)) H6.out
    · rw [inRune_beg hs hw hbg]
      rw [hbg] at HBE
      clear hs hw hbg
      go_enter Tryd.func31, Tryd.ntmps31
      go_wp2_with (first
        | (go_at_call 57; rw [HS.out]; refine (HW.out _).mono ?_; rintro e w1 ⟨rfl, hb1⟩; clear HW; replace H3 := hide (H3.out.trans (hb1.mono (by simp))); clear hb1)
        | (go_at_call 60; refine (HBE.out _).mono ?_; rintro e w2 ⟨rfl, hb1⟩; clear HBE; replace H3 := hide (H3.out.trans (hb1.mono H3.out.size)); clear hb1)
        | fail)
      go_ret2
      exact feed_mk rfl (ActsV.nil _) H3.out
  · rw [inRune_whole hs hw]
    rw [hw] at HW
    rw [whole_dec, Bool.and_eq_true] at hw
    have hok := hw.1
    replace HN := hide (fun W => HN.out W _ hok)
    clear hok hs hw
    generalize (Utf8.decode s 0).1 = r at *
    generalize (Utf8.decode s 0).2 = n at *
    go_enter Tryd.func31, Tryd.ntmps31
    go_wp2_with (first
      | (go_at_call 57; rw [HS.out]; refine (HW.out _).mono ?_; rintro e w1 ⟨rfl, hb1⟩; clear HW; replace H3 := hide (H3.out.trans (hb1.mono (by simp))); clear hb1)
      | (go_at_call 58; refine (HN.out _).mono ?_; rintro e w2 ⟨rfl, hb1⟩; clear HN; replace H3 := hide (H3.out.trans (hb1.mono H3.out.size)); clear hb1)
      | (go_at_call 59; refine (one_any _ _ _).mono ?_; rintro e w5 ⟨rfl, rfl⟩)
      | fail)
    go_ret2
    exact feed_mk rfl (lit_at (NumsV.nil _) rfl) (H3.out.alloc H3.out.size _)


set_option maxRecDepth 100000 in
set_option maxHeartbeats 2000000 in
theorem rfeed2_any (T : ByteArray) (x : Int) (w : World) (hTT : T = ⟨#[27]⟩) (h0 : 0 ≤ x) (h1 : x ≤ 255) :
    Calls Tryd.prog 31 #[.string T, .int .u8 x] w (FeedPost w (.string (tOf (inSeq 2 ⟨#[]⟩ x).1)) (inSeq 2 ⟨#[]⟩ x).2) := by
  have c1 := conv_1
  have hTs : T.size = 1 := by rw [hTT]; rfl
  have hg0 : T.get! 0 = 27 := by rw [hTT]; rfl
  have ht1 : (T.size : Int) ≤ 1000 := by omega
  have ht2 : ((T.size : Int) == 1) = true := by rw [hTs]; rfl
  have ht3 : 0 < T.size := by omega
  have hl := str_nonempty ht3
  have hs0 : T[0]'ht3 = 27 := by rw [← hg0]; exact (get_of ht3).symm
  have n27 : (((27 : UInt8).toNat : Int) != 27) = false := rfl
  have o1 : ((strOfNums [x]).size : Int) ≤ 1 := by rw [one_size]; omega
  have HTT := hide hTT
  have H3 := hide ((Below.refl w.heap.size w).alloc (Nat.le_refl _) (.cells #[.int .u8 x] 5))
  clear hTT hTs hg0
  by_cases k27 : x = 27
  · subst k27
    rw [seq_27]
    go_enter Tryd.func31, Tryd.ntmps31
    go_wp2_with (first | (go_at_call 59; refine (one_any _ _ _).mono ?_; rintro e w5 ⟨rfl, rfl⟩) | fail)
    go_ret2
    exact feed_mk rfl (lit_at (NumsV.nil _) (by simp)) (H3.out.alloc H3.out.size _)
  by_cases k24 : x = 24
  · subst k24
    rw [seq_24]
    go_enter Tryd.func31, Tryd.ntmps31
    go_wp2_with (first | (go_at_call 59; refine (one_any _ _ _).mono ?_; rintro e w5 ⟨rfl, rfl⟩) | fail)
    go_ret2
    exact feed_mk rfl (lit_at (NumsV.nil _) (by simp)) (H3.out.alloc H3.out.size _)
  by_cases k26 : x = 26
  · subst k26
    rw [seq_26]
    go_enter Tryd.func31, Tryd.ntmps31
    go_wp2_with (first | (go_at_call 59; refine (one_any _ _ _).mono ?_; rintro e w5 ⟨rfl, rfl⟩) | fail)
    go_ret2
    exact feed_mk rfl (lit_at (NumsV.nil _) (by simp)) (H3.out.alloc H3.out.size _)
  have t1 : (x == 27) = false := by simp [k27]
  have t2 : (x == 24) = false := by simp [k24]
  have t3 : (x == 26) = false := by simp [k26]
  by_cases h5 : x < 32
  · rw [seq_ctl k27 k24 k26 h5]
    go_enter Tryd.func31, Tryd.ntmps31
    go_wp2_with (first | (go_at_call 59; refine (one_any _ _ _).mono ?_; rintro e w5 ⟨rfl, rfl⟩) | fail)
    go_ret2
    exact feed_mk (by rw [HTT.out]; rfl) (lit_at (NumsV.nil _) (by simp)) (H3.out.alloc H3.out.size _)
  by_cases h6 : x = 91
  · subst h6
    rw [seq2_br]
    go_enter Tryd.func31, Tryd.ntmps31
    go_wp2_with (first | (go_at_call 59; refine (one_any _ _ _).mono ?_; rintro e w5 ⟨rfl, rfl⟩) | fail)
    go_ret2
    exact feed_mk (by rw [HTT.out]; rfl) (ActsV.nil _) H3.out
  have t4 : (x == 91) = false := by simp [h6]
  by_cases h7 : 48 ≤ x
  · by_cases h8 : x < 127
    · have h9 : x ≤ 126 := by omega
      rw [seq2_esc h7 h8 h6]
      go_enter Tryd.func31, Tryd.ntmps31
      go_wp2_with (first | (go_at_call 59; refine (one_any _ _ _).mono ?_; rintro e w5 ⟨rfl, rfl⟩) | fail)
      go_ret2
      exact feed_mk rfl (lit_at (NumsV.nil _) (by simp)) (H3.out.alloc H3.out.size _)
    · have h9 : ¬ x ≤ 126 := by omega
      rw [seq2_bad (by omega) (.inr (by omega))]
      go_enter Tryd.func31, Tryd.ntmps31
      go_wp2_with (first | (go_at_call 59; refine (one_any _ _ _).mono ?_; rintro e w5 ⟨rfl, rfl⟩) | fail)
      go_ret2
      exact feed_mk rfl (lit_at (NumsV.nil _) (by simp)) (H3.out.alloc H3.out.size _)
  · rw [seq2_bad (by omega) (.inl (by omega))]
    go_enter Tryd.func31, Tryd.ntmps31
    go_wp2_with (first | (go_at_call 59; refine (one_any _ _ _).mono ?_; rintro e w5 ⟨rfl, rfl⟩) | fail)
    go_ret2
    exact feed_mk rfl (lit_at (NumsV.nil _) (by simp)) (H3.out.alloc H3.out.size _)

set_option maxRecDepth 100000 in
set_option maxHeartbeats 2000000 in
theorem rfeed3_any (t T : ByteArray) (x : Int) (w : World) (ht : t.size ≤ 90000) (hTT : T = ⟨#[27, 91]⟩ ++ t) (h0 : 0 ≤ x) (h1 : x ≤ 255) :
    Calls Tryd.prog 31 #[.string T, .int .u8 x] w (FeedPost w (.string (tOf (inSeq 3 t x).1)) (inSeq 3 t x).2) := by
  have c1 := conv_1
  have hTs : T.size = t.size + 2 := by rw [hTT, join_size]; show 2 + t.size = _; omega
  have hg0 : T.get! 0 = 27 := by rw [hTT, join_get0 (by decide)]; rfl
  have ht1 : (T.size : Int) ≤ 100000 := by omega
  have ht2 : ((T.size : Int) == 1) = false := by simp; omega
  have ht3 : 0 < T.size := by omega
  have ht4 : (2 : Int) ≤ (T.size : Int) := by omega
  have hl := str_nonempty ht3
  have hs0 : T[0]'ht3 = 27 := by rw [← hg0]; exact (get_of ht3).symm
  have hex : T.extract 2 T.size = t := by
    rw [hTT, show (⟨#[27, 91]⟩ ++ t : ByteArray).size = 2 + t.size by rw [join_size]; rfl]
    exact ByteArray.extract_append_eq_right rfl (by rfl)
  have HE := hide hex
  clear hex
  have n27 : (((27 : UInt8).toNat : Int) != 27) = false := rfl
  have o1 : ((strOfNums [x]).size : Int) ≤ 1 := by rw [one_size]; omega
  have HTT := hide hTT
  have H3 := hide ((Below.refl w.heap.size w).alloc (Nat.le_refl _) (.cells #[.int .u8 x] 5))
  clear hTT hTs hg0
  by_cases k27 : x = 27
  · subst k27
    rw [seq_27]
    go_enter Tryd.func31, Tryd.ntmps31
    go_wp2_with (first | (go_at_call 59; refine (one_any _ _ _).mono ?_; rintro e w5 ⟨rfl, rfl⟩) | fail)
    go_ret2
    exact feed_mk rfl (lit_at (NumsV.nil _) (by simp)) (H3.out.alloc H3.out.size _)
  by_cases k24 : x = 24
  · subst k24
    rw [seq_24]
    go_enter Tryd.func31, Tryd.ntmps31
    go_wp2_with (first | (go_at_call 59; refine (one_any _ _ _).mono ?_; rintro e w5 ⟨rfl, rfl⟩) | fail)
    go_ret2
    exact feed_mk rfl (lit_at (NumsV.nil _) (by simp)) (H3.out.alloc H3.out.size _)
  by_cases k26 : x = 26
  · subst k26
    rw [seq_26]
    go_enter Tryd.func31, Tryd.ntmps31
    go_wp2_with (first | (go_at_call 59; refine (one_any _ _ _).mono ?_; rintro e w5 ⟨rfl, rfl⟩) | fail)
    go_ret2
    exact feed_mk rfl (lit_at (NumsV.nil _) (by simp)) (H3.out.alloc H3.out.size _)
  have t1 : (x == 27) = false := by simp [k27]
  have t2 : (x == 24) = false := by simp [k24]
  have t3 : (x == 26) = false := by simp [k26]
  by_cases h5 : x < 32
  · rw [seq_ctl k27 k24 k26 h5]
    go_enter Tryd.func31, Tryd.ntmps31
    go_wp2_with (first | (go_at_call 59; refine (one_any _ _ _).mono ?_; rintro e w5 ⟨rfl, rfl⟩) | fail)
    go_ret2
    exact feed_mk (by rw [HTT.out]; rfl) (lit_at (NumsV.nil _) (by simp)) (H3.out.alloc H3.out.size _)
  by_cases h6 : x < 64
  · rw [seq3_more (by omega) h6]
    go_enter Tryd.func31, Tryd.ntmps31
    go_wp2_with (first | (go_at_call 59; refine (one_any _ _ _).mono ?_; rintro e w5 ⟨rfl, rfl⟩) | fail)
    go_ret2
    exact feed_mk (by rw [HTT.out]; exact ByteArray.append_assoc) (ActsV.nil _) H3.out
  by_cases h7 : x < 127
  · have h9 : x ≤ 126 := by omega
    have h8 : ¬ 126 < x := by omega
    cases hp : params t with
    | none =>
      rw [seq3_no (by omega) h7 hp]
      have HPP := hide hp
      clear hp
      go_enter Tryd.func31, Tryd.ntmps31
      go_wp2_with (first | (go_at_call 61; rw [HE.out]; refine (par_none (rparams_any t _ (by omega)) HPP.out).mono ?_; rintro e w1 ⟨pv, rfl, hb1⟩; replace H3 := hide (H3.out.trans (hb1.mono H3.out.size)); clear hb1) | (go_at_call 59; refine (one_any _ _ _).mono ?_; rintro e w5 ⟨rfl, rfl⟩) | fail)
      go_ret2
      exact feed_mk rfl (lit_at (NumsV.nil _) rfl) (H3.out.alloc H3.out.size _)
    | some l =>
      rw [seq3_ok (by omega) h7 hp]
      have HPP := hide hp
      clear hp
      go_enter Tryd.func31, Tryd.ntmps31
      go_wp2_with (first | (go_at_call 61; rw [HE.out]; refine (par_some (rparams_any t _ (by omega)) HPP.out).mono ?_; rintro e w1 ⟨pv, rfl, hnum, hb1⟩; replace H3 := hide (H3.out.trans (hb1.mono H3.out.size)); obtain ⟨A9, c9, rfl, hcs⟩ := hnum; have HNU : Hid (NumsV w1 (.slice A9 l.length c9) l) := hide ⟨A9, c9, rfl, hcs⟩; clear hb1 hcs) | (go_at_call 59; refine (one_any _ _ _).mono ?_; rintro e w5 ⟨rfl, rfl⟩) | fail)
      go_ret2
      exact feed_mk rfl (lit_at HNU.out rfl) (H3.out.alloc H3.out.size _)
  · have h8 : 126 < x := by omega
    rw [seq3_high (by omega)]
    cases hp : params t with
    | none =>
      have HPP := hide hp
      clear hp
      go_enter Tryd.func31, Tryd.ntmps31
      go_wp2_with (first | (go_at_call 61; rw [HE.out]; refine (par_none (rparams_any t _ (by omega)) HPP.out).mono ?_; rintro e w1 ⟨pv, rfl, hb1⟩; replace H3 := hide (H3.out.trans (hb1.mono H3.out.size)); clear hb1) | (go_at_call 59; refine (one_any _ _ _).mono ?_; rintro e w5 ⟨rfl, rfl⟩) | fail)
      go_ret2
      exact feed_mk rfl (lit_at (NumsV.nil _) rfl) (H3.out.alloc H3.out.size _)
    | some l =>
      have HPP := hide hp
      clear hp
      go_enter Tryd.func31, Tryd.ntmps31
      go_wp2_with (first | (go_at_call 61; rw [HE.out]; refine (par_some (rparams_any t _ (by omega)) HPP.out).mono ?_; rintro e w1 ⟨pv, rfl, hnum, hb1⟩; replace H3 := hide (H3.out.trans (hb1.mono H3.out.size)); obtain ⟨A9, c9, rfl, hcs⟩ := hnum; have HNU : Hid (NumsV w1 (.slice A9 l.length c9) l) := hide ⟨A9, c9, rfl, hcs⟩; clear hb1 hcs) | (go_at_call 59; refine (one_any _ _ _).mono ?_; rintro e w5 ⟨rfl, rfl⟩) | fail)
      go_ret2
      exact feed_mk rfl (lit_at (NumsV.nil _) rfl) (H3.out.alloc H3.out.size _)

/-- limnerref07.Feed. -/
theorem rfeed_any (k : Nat) (p : Nat × ByteArray) (x : Int) (w : World) (hk : k ≤ 90000) (hp : StOk k p) (h0 : 0 ≤ x) (h1 : x ≤ 255) :
    Calls Tryd.prog 31 #[.string (tOf p), .int .u8 x] w (FeedPost w (.string (tOf (feed p x).1)) (feed p x).2) := by
  obtain ⟨a, t⟩ := p
  rcases hp with ⟨e, hp⟩ | ⟨e, hp, hp2, hp3⟩ | ⟨e, hp⟩ | ⟨e, hp⟩
  · obtain rfl : a = 0 := e
    exact rfeed0_any x w h0 h1
  · obtain rfl : a = 1 := e
    exact rfeed1_any t x w hp hp2 hp3 h0 h1
  · obtain rfl : a = 2 := e
    obtain rfl := size0 hp
    exact rfeed2_any _ x w rfl h0 h1
  · obtain rfl : a = 3 := e
    exact rfeed3_any t _ x w (by have : t.size ≤ k := hp; omega) rfl h0 h1
end Go.Proofs.YtmemdhmjhckmaaaDoor
