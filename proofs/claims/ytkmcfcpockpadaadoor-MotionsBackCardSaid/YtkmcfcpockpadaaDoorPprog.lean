/- Contracts of places: near, Start, End, Runes, Place. -/
import Derived.Test.YtkmcfcpockpadaaDoorPref2
import Derived.Test.YtkmcfcpockpadaaDoorCstarts
import Derived.Test.YtkmcfcpockpadaaDoorShelf
import Derived.Laws.RangeAny
import Derived.Lib.OthersKept
namespace Go.Proofs.YtkmcfcpockpadaaDoor
open Go.RowKit

theorem near_any (s : ByteArray) (a : Int) (w : World) (hs : s.size ≤ 1048576) : Calls Tryd.prog 42 #[.string s, .int .i64 a] w fun e w' => e = .returned (.int .i64 (nearP s a)) ∧ w = w' := by
  go_enter Tryd.func42, Tryd.ntmps42
  go_wp2
  go_ret
  exact ⟨ret_i (by unfold nearP; omega), rfl⟩
set_option maxHeartbeats 400000 in
theorem start_any (s : ByteArray) (a : Int) (w : World) (hs : s.size ≤ 1048576) : Calls Tryd.prog 24 #[.string s, .int .i64 a] w fun e w' => e = .returned (.int .i64 (stP s (nearP s a))) ∧ w = w' := by
  have hn := nearP_le s a
  generalize hN : nearP s a = n at *
  have HN := hide hN
  have HL := hide (last_st s n hn)
  have HZ := hide (show (s.extract 0 n).size < 4611686018427387904 by simp; omega)
  have hst := stP_le s n
  clear hN
  obtain ⟨x, hx⟩ : ∃ x, Lib.lastIndexByte (s.extract 0 n) 10 = x := ⟨_, rfl⟩
  have HX := hide hx
  have hx1 : x + 1 = (stP s n : Nat) := by rw [← hx]; exact last_st s n hn
  have hx2 : -1 ≤ x := by omega
  have hx3 : x ≤ 1048576 := by omega
  clear hx
  go_enter Tryd.func24, Tryd.ntmps24
  go_wp2_with (first
    | (go_at_call 42; refine (near_any s a _ hs).mono ?_; rw [HN.out]; rintro e w' ⟨rfl, rfl⟩)
    | (go_at_call 41; refine (Tryd.strings_LastIndexByte (s.extract 0 n) 10 HZ.out _).mono ?_; rw [HX.out]; rintro e w' ⟨rfl, rfl⟩))
  go_ret
  exact ⟨rfl, rfl⟩
set_option maxHeartbeats 400000 in
theorem end_any (s : ByteArray) (a : Int) (w : World) (hs : s.size ≤ 1048576) : Calls Tryd.prog 25 #[.string s, .int .i64 a] w fun e w' => e = .returned (.int .i64 (enP s (nearP s a))) ∧ w = w' := by
  have hn := nearP_le s a
  generalize hN : nearP s a = n at *
  have HN := hide hN
  have he := enP_spec s n hn
  have he1 := he.1
  have he2 := he.2.1
  clear hN he
  obtain ⟨x, hx⟩ : ∃ x, Lib.indexByte (s.extract n s.size).data.toList 10 = x := ⟨_, rfl⟩
  have HX := hide (show Lib.indexByte (s.extract n s.size).data.toList (10 : Int).toNat.toUInt8 = x from hx)
  rcases index_en s n hn with ⟨h1, h2, _⟩ | ⟨h1, h2, _⟩
  · rw [hx] at h1
    subst h1
    rw [h2]
    clear hx h2
    go_enter Tryd.func25, Tryd.ntmps25
    go_wp2_with (first
      | (go_at_call 42; refine (near_any s a _ hs).mono ?_; rw [HN.out]; rintro e w' ⟨rfl, rfl⟩)
      | (go_at_call 43; refine (Tryd.strings_IndexByte (s.extract n s.size) 10 _).mono ?_; rw [HX.out]; rintro e w' ⟨rfl, rfl⟩))
    go_ret
    exact ⟨rfl, rfl⟩
  · rw [hx] at h1
    have h3 : 0 ≤ x := by omega
    have h4 : x ≤ 1048576 := by omega
    have H5 := hide (show (n : Int) + x = (enP s n : Nat) by omega)
    clear hx h1 h2
    go_enter Tryd.func25, Tryd.ntmps25
    go_wp2_with (first
      | (go_at_call 42; refine (near_any s a _ hs).mono ?_; rw [HN.out]; rintro e w' ⟨rfl, rfl⟩)
      | (go_at_call 43; refine (Tryd.strings_IndexByte (s.extract n s.size) 10 _).mono ?_; rw [HX.out]; rintro e w' ⟨rfl, rfl⟩))
    go_ret
    exact ⟨ret_i H5.out, rfl⟩
/-- Runes from a place on, as the program counts them. -/
def rnF (s : ByteArray) (a : Int) : Nat → Nat → Nat
  | 0, _ => 0
  | f + 1, pos => if pos < s.size ∧ (pos : Int) < a then 1 + rnF s a f (pos + (Utf8.decode s pos).2) else 0
theorem rnF_eq (s : ByteArray) (a : Int) : ∀ f pos, s.size ≤ pos + f → rnF s a f pos = ((startsFrom s f pos).filter fun (k : Nat) => decide ((k : Int) < a)).length
  | 0, _, _ => rfl
  | f + 1, pos, h => by
    unfold rnF
    by_cases hp : pos < s.size
    · rw [startsFrom_go hp]
      have hd := dec_in s pos hp
      by_cases ha : (pos : Int) < a
      · rw [if_pos ⟨hp, ha⟩, List.filter_cons, if_pos (by simpa using ha), rnF_eq s a f _ (by omega)]
        simp; omega
      · rw [if_neg (fun h => ha h.2), List.filter_cons, if_neg (by simpa using ha)]
        rw [List.filter_eq_nil_iff.2]
        · rfl
        · intro x hx
          have := starts_lt s _ _ x hx
          simp; omega
    · rw [if_neg (fun h => hp h.1), startsFrom_end hp]; rfl
theorem rnF_rnN (s : ByteArray) (a : Int) : rnF s a s.size 0 = rnN s a := rnF_eq s a _ _ (by omega)
theorem rnF_go {s : ByteArray} {a : Int} {f pos : Nat} {m T : Int} (hp : pos < s.size) (ha : (pos : Int) < a) (h : m + (rnF s a f pos : Nat) = T) (hf : s.size ≤ pos + f) : m + 1 + (rnF s a (f - 1) (pos + (Utf8.decode s pos).2) : Nat) = T := by
  obtain ⟨f, rfl⟩ : ∃ g, f = g + 1 := ⟨f - 1, by omega⟩
  have e : rnF s a (f + 1) pos = 1 + rnF s a f (pos + (Utf8.decode s pos).2) := by
    show (if _ then _ else _) = _
    rw [if_pos ⟨hp, ha⟩]
  rw [e] at h
  simp only [Nat.add_sub_cancel]
  omega
theorem rnF_stop {s : ByteArray} {a : Int} {f pos : Nat} (h : ¬ (pos < s.size ∧ (pos : Int) < a)) : rnF s a f pos = 0 := by
  cases f with
  | zero => rfl
  | succ f => show (if _ then _ else _) = _; rw [if_neg h]
set_option maxHeartbeats 1000000 in
theorem runes_any (s : ByteArray) (a : Int) (w : World) (hs : s.size ≤ 1048576) :
    Calls Tryd.prog 44 #[.string s, .int .i64 a] w fun e w' => e = .returned (.int .i64 (rnN s a)) ∧ Below w.heap.size w w' := by
  have HE := hide (rnF_rnN s a)
  go_enter Tryd.func44, Tryd.ntmps44
  go_wp2
  go_loopw [5] (fun n wr => ∃ (pos f : Nat) (m : Int), wr.heap[w.heap.size]? = some (.stringIter s pos) ∧ 0 ≤ m ∧ m ≤ pos ∧ n = .int .i64 m ∧ Hid (m + (rnF s a f pos : Nat) = (rnF s a s.size 0 : Nat)) ∧ s.size ≤ pos + f ∧ pos ≤ s.size ∧ Below w.heap.size w wr) (fun _ wr => s.size - wr.iterPos w.heap.size)
  case atStart => exact ⟨0, s.size, 0, World.iter_heap _ _ _, by omega, by omega, rfl, Int.zero_add _, by omega, by omega, (Below.refl _ _).alloc (Nat.le_refl _) _⟩
  case round =>
    obtain ⟨pos, f, m, hit, hm0, hm1, rfl, HT, hf, hpos, hB⟩ := hrel
    by_cases hp : pos < s.size
    · have hnx : ∀ ty, (Instr.next (.pointer (some ⟨w.heap.size, 0, none⟩)) true ty).run Tryd.prog wr = _ := fun ty => Lib.run_next_any_at wr w.heap.size s pos ty hit hp
      have hd := dec_in s pos hp
      obtain ⟨wi, hwi⟩ : ∃ wi, wi = wr.iterAt w.heap.size s (pos + (Utf8.decode s pos).2) := ⟨_, rfl⟩
      have hBi : Below w.heap.size w wi := by rw [hwi]; exact Lib.below_iterAt hB (Nat.le_refl _) _ _
      have hiti : wi.heap[w.heap.size]? = some (.stringIter s (pos + (Utf8.decode s pos).2)) := by rw [hwi]; exact Lib.iterAt_heap _ _ _ _ _ hit
      rw [← hwi] at hnx
      have HBI := hide hBi
      have HITI := hide hiti
      have HIT := hide hit
      clear hwi hBi hiti hit hB
      by_cases hpa : (pos : Int) < a
      · go_wp2
        go_roundw
        case rel => exact ⟨pos + (Utf8.decode s pos).2, f - 1, m + 1, HITI.out, by omega, by omega, rfl, rnF_go hp hpa HT.out hf, by omega, by omega, HBI.out⟩
        case measure => simp only [World.iterPos]; rw [HITI.out, HIT.out]; dsimp only; omega
      · go_wp2
        go_ret
        exact ⟨ret_i (by rw [← HE.out, ← HT.out, rnF_stop (by omega)]; simp), HBI.out⟩
    · have hnx : ∀ ty, (Instr.next (.pointer (some ⟨w.heap.size, 0, none⟩)) true ty).run Tryd.prog wr = _ := fun ty => Lib.run_next_end_at wr w.heap.size s pos ty hit hp
      go_wp2
      go_ret
      exact ⟨ret_i (by rw [← HE.out, ← HT.out, rnF_stop (fun h => hp h.1)]; simp), hB⟩

set_option maxHeartbeats 400000 in
theorem place_any (s : ByteArray) (r : Int) (w : World) (hs : s.size ≤ 1048576) : Calls Tryd.prog 45 #[.string s, .int .i64 r] w fun e w' => e = .returned (.int .i64 (plcI s r)) ∧ Below w.heap.size w w' := by
  have hlen := starts_len s
  by_cases h0 : r < 1
  · go_enter Tryd.func45, Tryd.ntmps45
    go_wp2_with fail
    refine (cstarts_any s _ hs).mono ?_; rintro e w1 ⟨A, c, rfl, hown, hb1⟩
    have HB := hide hb1
    clear hb1 hown
    go_wp2
    go_ret
    exact ⟨ret_i (by unfold plcI; rw [if_pos h0]; rfl), HB.out⟩
  by_cases h1 : ((starts s).length : Int) ≤ r
  · have HE := hide (show (plcI s r : Nat) = s.size by unfold plcI; rw [if_neg h0, plc_end (by unfold nR; omega)])
    go_enter Tryd.func45, Tryd.ntmps45
    go_wp2_with fail
    refine (cstarts_any s _ hs).mono ?_; rintro e w1 ⟨A, c, rfl, hown, hb1⟩
    have HB := hide hb1
    clear hb1 hown
    go_wp2
    go_ret
    exact ⟨ret_i (by rw [HE.out]), HB.out⟩
  obtain ⟨n, rfl⟩ : ∃ n : Nat, r = n := ⟨r.toNat, by omega⟩
  have HE := hide (show (starts s)[n]?.getD 0 = plcI s n by rw [plcI_nat, Nat.min_eq_left (by unfold nR; omega)]; exact plc_of_getD (by unfold nR; omega))
  go_enter Tryd.func45, Tryd.ntmps45
  go_wp2_with fail
  refine (cstarts_any s _ hs).mono ?_; rintro e w1 ⟨A, c, rfl, hown, hb1⟩
  obtain ⟨g, rfl, hc⟩ := NatsAt.of_own hown n (by omega)
  rw [HE.out] at hc
  have HB := hide hb1
  clear hb1 hown
  go_wp2
  go_ret
  exact ⟨rfl, HB.out⟩
end Go.Proofs.YtkmcfcpockpadaaDoor
