/- Contracts of limnerref04: Runes, Place. -/
import Derived.Test.YtkmcfcpockpadaaDoorPref
namespace Go.Proofs.YtkmcfcpockpadaaDoor
open Go.RowKit

/-- How many of the first so many runes stand ahead of a place. -/
def rnM (s : ByteArray) (a : Int) (k : Nat) : Nat := (((starts s).take k).filter fun (x : Nat) => decide ((x : Int) < a)).length
theorem rnM_all (s : ByteArray) (a : Int) : rnM s a (starts s).length = rnN s a := by unfold rnM rnN; rw [List.take_length]
theorem rnM_le (s : ByteArray) (a : Int) (k : Nat) : rnM s a k ≤ k := by
  unfold rnM
  exact Nat.le_trans (List.length_filter_le _ _) (by rw [List.length_take]; omega)
theorem rnM_succ {s : ByteArray} {a : Int} {k x : Nat} (h : (starts s)[k]? = some x) : rnM s a (k + 1) = rnM s a k + if (x : Int) < a then 1 else 0 := by
  unfold rnM
  rw [List.take_add_one, h, List.filter_append, List.length_append]
  congr 1
  by_cases hx : (x : Int) < a <;> simp [hx]
theorem rnM_t {s : ByteArray} {a : Int} {k x : Nat} (h : (starts s)[k]? = some x) (hx : (x : Int) < a) : rnM s a (k + 1) = rnM s a k + 1 := by rw [rnM_succ h, if_pos hx]
theorem rnM_f {s : ByteArray} {a : Int} {k x : Nat} (h : (starts s)[k]? = some x) (hx : ¬ (x : Int) < a) : rnM s a (k + 1) = rnM s a k := by rw [rnM_succ h, if_neg hx]; rfl
set_option maxHeartbeats 400000 in
theorem rrunes_any (s : ByteArray) (a : Int) (w : World) (hs : s.size ≤ 1048576) : Calls Tryd.prog 17 #[.string s, .int .i64 a] w fun e w' => e = .returned (.int .i64 (rnN s a)) ∧ Below w.heap.size w w' := by
  have hlen := starts_len s
  go_enter Tryd.func17, Tryd.ntmps17
  go_wp2_with fail
  refine (starts_any s _ hs).mono ?_; rintro e w1 ⟨A, c, rfl, hown, hb1⟩
  have HO := hide (NatsAt.of_own hown)
  have HB := hide hb1
  have HR := hide (rnM_all s a)
  obtain ⟨n, hn⟩ : ∃ n, (starts s).length = n := ⟨_, rfl⟩
  have HN := hide hn
  rw [hn] at hlen ⊢
  clear hown hb1 hn
  go_wp2
  go_loop [6, 7] (fun c t => ∃ k m : Nat, k ≤ n ∧ m ≤ k ∧ c = .int .i64 m ∧ t = .int .i64 k ∧ Hid (m = rnM s a k)) (fun _ t => n - (intOf t).toNat)
  case atStart => exact ⟨0, 0, Nat.zero_le _, Nat.le_refl _, rfl, rfl, hide rfl⟩
  case round =>
    obtain ⟨k, m, hk, hm, rfl, rfl, HM⟩ := hrel
    by_cases hlt : k < n
    · obtain ⟨x, hx⟩ : ∃ x, (starts s)[k]? = some x := ⟨_, List.getElem?_eq_getElem (by rw [HN.out]; exact hlt)⟩
      obtain ⟨g, rfl, hc⟩ := HO.out k (by rw [HN.out]; exact hlt)
      rw [hx] at hc
      have HX := hide hx
      clear hx
      by_cases hxa : (x : Int) < a
      · go_wp2
        go_round
        case rel => exact ⟨k + 1, m + 1, by omega, by omega, by go_num, by go_num, hide (by rw [rnM_t HX.out hxa, HM.out])⟩
        case measure => simp [intOf]; omega
      · go_wp2
        go_round
        case rel => exact ⟨k + 1, m, by omega, by omega, rfl, by go_num, hide (by rw [rnM_f HX.out hxa, HM.out])⟩
        case measure => simp [intOf]; omega
    · obtain rfl : k = n := by omega
      go_wp2
      go_ret
      exact ⟨ret_i (by rw [HM.out, ← HN.out, HR.out]), HB.out⟩

theorem nats_len (L : List Nat) : (nats L).length = L.length := by simp [nats]
theorem place_at {s : ByteArray} {r : Int} {k : Nat} (h1 : ¬ r < 1) (hk : k = min r.toNat (nR s)) : ((starts s ++ [s.size])[k]?.getD 0 : Nat) = plcI s r := by
  unfold plcI
  rw [if_neg h1, ← hk]
  have hl : k ≤ (starts s).length := by unfold nR at hk; omega
  unfold plc
  by_cases h : k < (starts s).length
  · rw [List.getElem?_append_left h, List.getElem?_eq_getElem h]; rfl
  · rw [List.getElem?_append_right (by omega), show k - (starts s).length = 0 by omega, List.getElem?_eq_none (l := starts s) (by omega)]; rfl
theorem place_cell {s : ByteArray} {w2 : World} {B : Nat} {t : TypeId} {A2 : Option Addr} {c2 q : Nat} {r : Int} (h : w2.ownsRow B t 1 (.slice A2 ((starts s).length + 1) c2) ((starts s).length + 1) (nats (starts s) ++ [Value.int .i64 (s.size : Nat)])) (h0 : ¬ r < 1) (hq : q = min r.toNat (nR s)) :
    ∃ g, A2 = some ⟨g, 0, none⟩ ∧ w2.cell? ⟨g, q, none⟩ = some (.int .i64 (plcI s r : Nat)) := by
  have e : (starts s).length + 1 = (starts s ++ [s.size]).length := by simp
  rw [← nats_snoc, e] at h
  obtain ⟨g, e2, hc⟩ := NatsAt.of_own h q (by unfold nR at hq; simp; omega)
  rw [place_at h0 hq] at hc
  exact ⟨g, e2, hc⟩
set_option maxHeartbeats 400000 in
theorem rplace_any (s : ByteArray) (r : Int) (w : World) (hs : s.size ≤ 1048576) : Calls Tryd.prog 19 #[.string s, .int .i64 r] w fun e w' => e = .returned (.int .i64 (plcI s r)) ∧ Below w.heap.size w w' := by
  obtain ⟨i0, hi, hz0, hz1, hz2⟩ := info_parts info_int
  have hlen := starts_len s
  go_enter Tryd.func19, Tryd.ntmps19
  go_wp2_with fail
  refine (starts_any s _ hs).mono ?_; rintro e w1 ⟨A, c, rfl, hown, hb1⟩
  have hbs := hb1.size
  have HB := hide hb1
  clear hb1
  by_cases h0 : r < 1
  · go_wp2_with (at_builtin; refine wpList_append_own _ rfl _ _ 33 rfl w.heap.size 3 i0 (.int .i64 0) 1 8 Tryd.underlying33 hi hz0 hz1 hz2 rfl (by decide) _ _ _ rfl (hown.alloc _) ⟨w1.heap.size, 0, none⟩ 1 1 [.int .i64 s.size] rfl rfl (cell_one_new _ _ _) (by simp [Value.oneCell']) (by unfold maxLen; omega) (by omega) (by simp; omega) ?_; intro v' w2 hown1 hgrow1 _)
    go_ret
    exact ⟨ret_i (by unfold plcI; rw [if_pos h0]; rfl), (HB.out.alloc hbs _).grown hgrow1 (by simp; omega) (fun k e => (hown.lt k e).1)⟩
  · obtain ⟨q, hq⟩ : ∃ q, q = min r.toNat (nR s) := ⟨_, rfl⟩
    have HQ := hide hq
    have hm : min r ((starts s).length : Int) = (q : Int) := by unfold nR at hq; omega
    have hq2 : q ≤ (starts s).length := by unfold nR at hq; omega
    clear hq
    go_wp2_with (at_builtin; refine wpList_append_own _ rfl _ _ 33 rfl w.heap.size 3 i0 (.int .i64 0) 1 8 Tryd.underlying33 hi hz0 hz1 hz2 rfl (by decide) _ _ _ rfl (hown.alloc _) ⟨w1.heap.size, 0, none⟩ 1 1 [.int .i64 s.size] rfl rfl (cell_one_new _ _ _) (by simp [Value.oneCell']) (by unfold maxLen; omega) (by omega) (by simp; omega) ?_; intro v' w2 hown1 hgrow1 _; have HBW := hide ((HB.out.alloc hbs _).grown hgrow1 (by simp; omega) (fun k e => (hown.lt k e).1)); obtain ⟨A2, c2, rfl⟩ := own_form hown1; obtain ⟨g, rfl, hc⟩ := place_cell hown1 (by omega) HQ.out; clear hown hown1 hgrow1)
    go_ret
    exact ⟨rfl, HBW.out⟩
end Go.Proofs.YtkmcfcpockpadaaDoor
