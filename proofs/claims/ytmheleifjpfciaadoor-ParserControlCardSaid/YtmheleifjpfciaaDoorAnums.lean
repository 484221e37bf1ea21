/- Contract of limnerref07.Params. -/
import Derived.Test.YtmheleifjpfciaaDoorAacts
import Derived.Deep.QuietTactic
import Derived.BigQuiet
import Derived.BigRegion
import Derived.RegionTactic
import Derived.ChangeAlike
namespace Go.Proofs.YtmheleifjpfciaaDoor
open Go.RowKit

def ints (l : List Int) : List Value := l.map (Value.int .i64)
theorem ints_app (l m : List Int) : ints (l ++ m) = ints l ++ ints m := by simp [ints]
theorem ints_len (l : List Int) : (ints l).length = l.length := by simp [ints]
theorem info_intA : (Tryd.prog.info? 3).map (fun i => (i.zero, i.size, i.bytes)) = some (some (.int .i64 0), 1, 8) := by kernel_rfl
/-- A row of numbers reads as them. -/
theorem nums_of_own {W : World} {B : Nat} {v : Value} {l : List Int} (h : W.ownsRow B 3 1 v l.length (ints l)) : NumsV W v l := by
  have h0 := h
  rcases h.2 with ⟨rfl, hz⟩ | ⟨g, cap, cur, rfl, hg, hh, h1, h2, h3, h4⟩
  · obtain rfl := List.length_eq_zero_iff.1 hz
    exact NumsV.nil W
  · refine ⟨some ⟨g, 0, none⟩, cap, rfl, fun j x hx => ⟨g, 0, rfl, ⟨_, _, hh⟩, ?_⟩⟩
    have hj := (List.getElem?_eq_some_iff.1 hx).1
    rw [Nat.zero_add, h0.cellAt j (by omega)]
    simp [ints, hx]
theorem own_succA {W : World} {B : Nat} {e : TypeId} {k n : Nat} {v : Value} {xs : List Value} (h : W.ownsRow B e k v (n + 1) xs) : ∃ g cap, v = .slice (some ⟨g, 0, none⟩) (n + 1) cap := by
  rcases h.2 with ⟨_, h0⟩ | ⟨g, cap, cur, rfl, _⟩
  · omega
  · exact ⟨g, cap, rfl⟩
def ParPost (w : World) : Option (List Int) → Ending → World → Prop
  | some l, e, w' => ∃ v, e = .returned (.tuple #[v, .bool true]) ∧ NumsV w' v l ∧ Below w.heap.size w w'
  | none, e, w' => ∃ v, e = .returned (.tuple #[v, .bool false]) ∧ Below w.heap.size w w'
theorem pgo_semi {c : UInt8} {r : List UInt8} {d : List Int} {n : Int} (h : c.toNat = 59) : pgo (c :: r) d n = pgo r (d ++ [n]) 0 := by simp only [pgo]; rw [if_pos h]
theorem pgo_digit {c : UInt8} {r : List UInt8} {d : List Int} {n : Int} (h : 48 ≤ c.toNat) (h1 : c.toNat ≤ 57) : pgo (c :: r) d n = pgo r d (min (10 * n + ((c.toNat : Int) - 48)) 9999) := by simp only [pgo]; rw [if_neg (by omega), if_pos ⟨h, h1⟩]
theorem pgo_bad {c : UInt8} {r : List UInt8} {d : List Int} {n : Int} (h : c.toNat ≠ 59) (h1 : c.toNat < 48 ∨ 57 < c.toNat) : pgo (c :: r) d n = none := by simp only [pgo]; rw [if_neg h, if_neg (by omega)]
theorem drop_byte {s : ByteArray} {k : Nat} (h : k < s.size) : s.data.toList.drop k = s[k] :: s.data.toList.drop (k + 1) := by
  rw [List.drop_eq_getElem_cons (by simpa using h)]
  rfl
theorem params_of {s : ByteArray} (h : 0 < s.size) : params s = (pgo s.data.toList [] 0).bind few := by unfold params; rw [if_neg (by omega)]

set_option maxHeartbeats 2000000 in
theorem rparams_any (s : ByteArray) (w : World) (hs : s.size ≤ 100000) :
    Calls Tryd.prog 23 #[.string s] w (ParPost w (params s)) := by
  by_cases h0 : s.size = 0
  · obtain rfl := size0 h0
    go_enter Tryd.func23, Tryd.ntmps23
    go_wp2
    go_ret2
    exact ⟨_, rfl, NumsV.nil _, Below.refl _ _⟩
  obtain ⟨i0, hi, hz0, hz1, hz2⟩ := info_parts info_intA
  rw [params_of (by omega)]
  have hl : s.toList.isEmpty = false := by
    rw [ByteArray.toList_eq]
    cases hh : s.data.toList with
    | nil => exfalso; exact h0 (by show s.data.size = 0; rw [← Array.length_toList, hh]; rfl)
    | cons a l => rfl
  have h00 : w.heap.size ≤ w.heap.size := Nat.le_refl _
  have hlit : (w.alloc (.cells #[.int .i64 0] 3)).ownsRow w.heap.size 3 1 (.slice (some ⟨w.heap.size, 0, none⟩) 1 1) 1 (ints [0]) :=
    ⟨rfl, .inr ⟨w.heap.size, 1, #[.int .i64 0], rfl, Nat.le_refl _, heap_alloc_new w _, Nat.le_refl _, by unfold maxLen; omega, rfl, rfl⟩⟩
  have HLit := hide hlit
  obtain ⟨o, ho⟩ : ∃ o, (pgo s.data.toList [] 0).bind few = o := ⟨_, rfl⟩
  rw [ho]
  have HO := hide ho
  clear hlit ho
  go_enter Tryd.func23, Tryd.ntmps23
  go_wp2
  go_loopw [4, 5] (fun v i wr => ∃ (k : Nat) (d : List Int) (n : Int), k ≤ s.size ∧ i = .int .i64 k ∧ wr.ownsRow w.heap.size 3 1 v (d.length + 1) (ints (d ++ [n])) ∧ Hid (pgo (s.data.toList.drop k) d n = pgo s.data.toList [] 0) ∧ 0 ≤ n ∧ n ≤ 9999 ∧ d.length ≤ k ∧ Below w.heap.size w wr) (fun _ i _ => s.size - (intOf i).toNat)
  case atStart => exact ⟨0, [], 0, by omega, rfl, HLit.out, hide (by simp), by omega, by omega, by simp, (Below.refl _ _).alloc (Nat.le_refl _) _⟩
  case round =>
    obtain ⟨k, d, n, hk, rfl, hown, HP, hn0, hn1, hdk, hB⟩ := hrel
    clear hl
    by_cases hlt : k < s.size
    · have HD := hide (drop_byte hlt)
      have hbs := hB.size
      obtain ⟨c, hc⟩ : ∃ c, s[k] = c := ⟨_, rfl⟩
      rw [hc] at HD
      have hcl := c.toNat_lt
      by_cases h59 : c.toNat = 59
      · have ht : (((c.toNat : Int)) == 59) = true := by simp; omega
        have HS := hide (pgo_semi (r := s.data.toList.drop (k + 1)) (d := d) (n := n) h59)
        rw [← HD.out, HP.out] at HS
        have HB := hide hB
        clear hB HP HD h59
        go_wp2_with (first
          | (at_builtin; refine wpList_append_own _ rfl _ _ 32 rfl w.heap.size 3 i0 (.int .i64 0) 1 8 Tryd.underlying32 hi hz0 hz1 hz2 rfl (by decide) _ _ _ rfl (hown.alloc _) ⟨wr.heap.size, 0, none⟩ 1 1 [.int .i64 0] rfl rfl (cell_one_new _ _ _) (by simp [Value.oneCell']) (by unfold maxLen; omega) (by omega) (by simp; omega) ?_; intro v' w1 hown1 hgrow1 _)
          | fail)
        have h1 : Below w.heap.size w w1 := (HB.out.alloc hbs _).grown hgrow1 (by simp; omega) (fun k e => (hown.lt k e).1)
        have H1 := hide h1
        have HW1 := hide hown1
        clear h1 hown hown1 hgrow1
        go_roundw
        case rel => exact ⟨k + 1, d ++ [n], 0, by omega, by go_num, by rw [ints_app, List.length_append]; exact HW1.out, hide HS.out.symm, by omega, by omega, by simp; omega, H1.out⟩
        case measure => simp [intOf]; omega
      · have ht : (((c.toNat : Int)) == 59) = false := by simp; omega
        by_cases hd : 48 ≤ c.toNat ∧ c.toNat ≤ 57
        · obtain ⟨hd1, hd2⟩ := hd
          have t1 : (48 : Int) ≤ (c.toNat : Int) := by omega
          have t2 : (c.toNat : Int) ≤ 57 := by omega
          have HS := hide (pgo_digit (r := s.data.toList.drop (k + 1)) (d := d) (n := n) hd1 hd2)
          rw [← HD.out, HP.out] at HS
          obtain ⟨m, hm⟩ : ∃ m, d.length = m := ⟨_, rfl⟩
          have HM := hide hm
          rw [hm] at hown hdk
          obtain ⟨g, cap, rfl⟩ := own_succA hown
          have hcell := hown.cellAt m (by omega)
          rw [show (ints (d ++ [n]))[m]? = some (.int .i64 n) by rw [ints_app, List.getElem?_append_right (by rw [ints_len]; omega), ints_len, hm, Nat.sub_self]; rfl] at hcell
          have hfro := hown.frozenAt m
          obtain ⟨q, hq⟩ : ∃ q, m + 1 = q := ⟨_, rfl⟩
          rw [hq] at hown ⊢
          have hqm : (m : Int) < (q : Int) := by omega
          have hqk : q ≤ 100000 := by omega
          have hm0 : (0 : Int) ≤ (m : Int) := by omega
          obtain ⟨x, hx⟩ : ∃ x : Int, (c.toNat : Int) - 48 = x := ⟨_, rfl⟩
          obtain ⟨y, hy⟩ : ∃ y : Int, n * 10 = y := ⟨_, rfl⟩
          obtain ⟨z, hz⟩ : ∃ z : Int, y + x = z := ⟨_, rfl⟩
          have e1 : IntKind.i64.wrap ((q : Int) - 1) = (m : Int) := by rw [Go.wrap_small _ (by omega) (by omega)]; omega
          have e2 : IntKind.u8.wrap ((c.toNat : Int) - 48) = x := by rw [hx]; simp [IntKind.wrap_u8]; omega
          have e3 : IntKind.i64.wrap (n * 10) = y := by rw [hy]; exact Go.wrap_small _ (by omega) (by omega)
          have e4 : IntKind.i64.wrap (y + x) = z := by rw [hz]; exact Go.wrap_small _ (by omega) (by omega)
          have e5 : IntKind.i64.wrap x = x := Go.wrap_small _ (by omega) (by omega)
          have hx0 : 0 ≤ x := by omega
          have hx1 : x ≤ 9 := by omega
          have HX := hide (show 10 * n + ((c.toNat : Int) - 48) = z by omega)
          have HZ := hide (show 0 ≤ z by omega)
          have HQ := hide hq
          have HB := hide hB
          have HO2 := hide hown
          clear hB HP HD h59 hm hown hq hx hy hz
          go_wp2
          go_region
          have R : ((wr.setCell ⟨g, m, none⟩ (.int .i64 (if 9999 < z then 9999 else z))).drew).ownsRow w.heap.size 3 1 (.slice (some ⟨g, 0, none⟩) q cap) (d.length + 1) (ints (d ++ [if 9999 < z then 9999 else z])) ∧ Below w.heap.size w (wr.setCell ⟨g, m, none⟩ (.int .i64 (if 9999 < z then 9999 else z))).drew := by
            have h9 := (HO2.out.stored m (.int .i64 (if 9999 < z then 9999 else z))).1
            have hb9 : w.heap.size ≤ g := (HO2.out.lt g rfl).1
            have e9 : (ints (d ++ [n])).set m (.int .i64 (if 9999 < z then 9999 else z)) = ints (d ++ [if 9999 < z then 9999 else z]) := by
              rw [ints_app, List.set_append_right _ _ (by rw [ints_len, HM.out]; exact Nat.le_refl _), ints_len, HM.out, Nat.sub_self, ints_app]
              rfl
            rw [e9] at h9
            rw [HM.out, HQ.out]
            exact ⟨h9, (HB.out.setCell (p := ⟨g, m, none⟩) hb9 _).drew⟩
          have HR := hide R
          have HS2 := hide (show pgo (s.data.toList.drop (k + 1)) d (if 9999 < z then 9999 else z) = pgo s.data.toList [] 0 by rw [HS.out, HX.out]; congr 1; rw [Int.min_def]; split <;> split <;> omega)
          clear R HO2 hcell hfro e1 e2 e3 e4 e5 HS
          go_wp2
          go_roundw
          case rel => exact ⟨k + 1, d, _, by omega, by go_num, HR.out.1, HS2.out, by have := HZ.out; split <;> omega, by split <;> omega, by have := HM.out; omega, HR.out.2⟩
          case measure => simp [intOf]; omega
        · have HS := hide (pgo_bad (r := s.data.toList.drop (k + 1)) (d := d) (n := n) h59 (by omega))
          rw [← HD.out, HP.out] at HS
          have hn : o = none := by rw [← HO.out, HS.out]; rfl
          subst hn
          have HB := hide hB
          by_cases h48 : 48 ≤ c.toNat
          · have t1 : (48 : Int) ≤ (c.toNat : Int) := by omega
            have t2 : ¬ (c.toNat : Int) ≤ 57 := by omega
            clear hB HP HD h59 hown HS
            go_wp2
            go_ret2
            exact ⟨_, rfl, HB.out⟩
          · have t1 : ¬ (48 : Int) ≤ (c.toNat : Int) := by omega
            clear hB HP HD h59 hown HS
            go_wp2
            go_ret2
            exact ⟨_, rfl, HB.out⟩
    · obtain rfl : k = s.size := by omega
      have HP2 := HP.out
      rw [List.drop_of_length_le (by show s.data.toList.length ≤ s.size; rw [Array.length_toList]; exact Nat.le_refl _)] at HP2
      have ho := HO.out
      rw [← HP2] at ho
      simp only [pgo, Option.bind_some] at ho
      have hlen : (d ++ [n]).length = d.length + 1 := by simp
      rw [← hlen] at hown
      have hnum := nums_of_own hown
      obtain ⟨A, c, e, hcs⟩ := hnum
      subst e
      have HN : Hid (NumsV wr (.slice A (d ++ [n]).length c) (d ++ [n])) := hide ⟨A, c, rfl, hcs⟩
      rw [hlen] at HN
      obtain ⟨m, hm⟩ : ∃ m, d.length + 1 = m := ⟨_, rfl⟩
      rw [hlen, hm]
      rw [hm] at HN
      have HB := hide hB
      have hm1 : m ≤ 1000000 := by omega
      by_cases hf : m ≤ 16
      · have t1 : ¬ (16 : Int) < (m : Int) := by omega
        have hx : o = some (d ++ [n]) := by rw [← ho]; unfold few; rw [if_pos (by omega)]
        subst hx
        clear hB hown hcs ho HP2 HO HP hm hlen
        go_wp2
        go_ret2
        exact ⟨_, rfl, HN.out, HB.out⟩
      · have t1 : (16 : Int) < (m : Int) := by omega
        have hx : o = none := by rw [← ho]; unfold few; rw [if_neg (by omega)]
        subst hx
        clear hB hown hcs ho HP2 HO HP hm hlen
        go_wp2
        go_ret2
        exact ⟨_, rfl, HB.out⟩
end Go.Proofs.YtmheleifjpfciaaDoor
