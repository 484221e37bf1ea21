/- Where runes stand: from the end of a text it is taken apart as from its front. Plain facts, no walk. Contracts of codes.Starts, limnerlaw01.Ints and limnerref01.Valid. TermText: the walk. -/
import Derived.Test.YtmemdhmjhckmaaaDoorZ8
import Derived.Test.YtmemdhmjhckmaaaDoorZ29
import Derived.Shelf.Unicode.DecodeLast
import Derived.Test.YtmemdhmjhckmaaaDoorZ9
import Derived.Laws.RangeAny
import Derived.Lib.OthersKept
import Derived.BigQuiet
import Derived.Deep.QuietTactic
import Derived.Test.YtmemdhmjhckmaaaDoorZ26
import Derived.Test.YtmemdhmjhckmaaaDoorZ10
namespace Go.Proofs.YtmemdhmjhckmaaaDoor

/-- What a decoding takes. -/
theorem dec_facts (s : ByteArray) (i : Nat) : (Utf8.decode s i).2 ≤ 4 ∧ (2 ≤ (Utf8.decode s i).2 → 192 ≤ (s.get! i).toNat) ∧ (∀ j, 1 ≤ j → j < (Utf8.decode s i).2 → (s.get! (i + j)).toNat / 64 = 2) ∧ ((s.get! i).toNat < 128 → Utf8.decode s i = ((s.get! i).toNat, 1)) ∧ ((Utf8.decode s i).2 = 1 → 128 ≤ (s.get! i).toNat → Utf8.decode s i = (65533, 1)) := by
  have lb0 := (s.get! i).toNat_lt
  unfold Utf8.decode
  simp only [Nat.add_zero]
  repeat' split
  all_goals
    refine ⟨by simp, ?_, ?_, ?_, ?_⟩
    · intro h; simp at h; try (simp_all <;> omega)
    · intro j h1 h2
      have hj : j = 1 ∨ j = 2 ∨ j = 3 := by simp at h2; omega
      rcases hj with rfl | rfl | rfl <;> simp_all
    · intro h; try (simp_all <;> omega)
    · intro h1 h2; try (simp_all [Utf8.runeError] <;> omega)

theorem start_mem {s : ByteArray} {p : Nat} (hp : p < s.size) (hs : (s.get! p).toNat / 64 ≠ 2) : ∀ f pos, pos ≤ p → s.size ≤ pos + f → p ∈ startsFrom s f pos
  | 0, pos, h1, h2 => absurd h2 (by omega)
  | f + 1, pos, h1, h2 => by
    rw [startsFrom_go (by omega)]
    by_cases e : pos = p
    · subst e; exact List.mem_cons_self
    · obtain ⟨_, _, hc, _⟩ := dec_facts s pos
      by_cases h : pos + (Utf8.decode s pos).2 ≤ p
      · exact List.mem_cons_of_mem _ (start_mem hp hs f _ h (by have := dec_in s pos (by omega); omega))
      · have := hc (p - pos) (by omega) (by omega)
        rw [show pos + (p - pos) = p by omega] at this
        exact absurd this hs

theorem last_spec (s : ByteArray) : ∀ f pos, pos < s.size → s.size ≤ pos + f → ∃ k, (startsFrom s f pos).getLast? = some k ∧ k < s.size ∧ k + (Utf8.decode s k).2 = s.size ∧ ∀ x ∈ startsFrom s f pos, x + (Utf8.decode s x).2 = s.size → x = k
  | 0, pos, h1, h2 => absurd h2 (by omega)
  | f + 1, pos, h1, h2 => by
    have hd := dec_in s pos h1
    rw [startsFrom_go h1]
    by_cases h : pos + (Utf8.decode s pos).2 < s.size
    · obtain ⟨k, e, hk, hw, hu⟩ := last_spec s f (pos + (Utf8.decode s pos).2) h (by omega)
      refine ⟨k, ?_, hk, hw, fun x hx he => ?_⟩
      · rw [List.getLast?_cons, e]; rfl
      · rcases List.mem_cons.1 hx with rfl | hx
        · omega
        · exact hu x hx he
    · rw [startsFrom_end h]
      exact ⟨pos, rfl, h1, by omega, fun x hx _ => by simpa using hx⟩

/-- The place of the last rune. -/
def lastS (s : ByteArray) : Nat := (starts s)[(starts s).length - 1]?.getD 0
theorem lastS_spec {s : ByteArray} (h : 0 < s.size) : lastS s < s.size ∧ lastS s + (Utf8.decode s (lastS s)).2 = s.size ∧ 1 ≤ (starts s).length ∧ ∀ x ∈ starts s, x + (Utf8.decode s x).2 = s.size → x = lastS s := by
  obtain ⟨k, e, hk, hw, hu⟩ := last_spec s s.size 0 h (by omega)
  have e' : lastS s = k := by
    unfold lastS; rw [← List.getLast?_eq_getElem?]; unfold starts; rw [e]; rfl
  rw [e']
  refine ⟨hk, hw, ?_, hu⟩
  unfold starts
  cases hz : startsFrom s s.size 0 with
  | nil => rw [hz] at e; simp at e
  | cons a l => simp

theorem startB {s : ByteArray} {i : Nat} (b : Bool) (h : ((s.get! i).toNat / 64 ≠ 2) ↔ b = true) : Lib.runeStartB (s.data.toList.getD i 0) = b := by
  rw [Lib.getD_get!]
  unfold Lib.runeStartB
  rw [Bool.eq_iff_iff, ← h]
  simp
theorem startB_t {s : ByteArray} {i : Nat} (h : (s.get! i).toNat / 64 ≠ 2) : Lib.runeStartB (s.data.toList.getD i 0) = true := startB true (by simp [h])
theorem startB_f {s : ByteArray} {i : Nat} (h : (s.get! i).toNat / 64 = 2) : Lib.runeStartB (s.data.toList.getD i 0) = false := startB false (by simp [h])

/-- A rune of two bytes or more that ends the text is found from its end. -/
theorem lastStart_of {s : ByteArray} {k : Nat} (h2 : 2 ≤ (Utf8.decode s k).2) (he : k + (Utf8.decode s k).2 = s.size) : Lib.lastStart s.data.toList = k := by
  obtain ⟨h4, hl, hc, _⟩ := dec_facts s k
  have hlen : s.data.toList.length = s.size := rfl
  have h0 : Lib.runeStartB (s.data.toList.getD k 0) = true := startB_t (by have := hl h2; omega)
  have hn : (Utf8.decode s k).2 = 2 ∨ (Utf8.decode s k).2 = 3 ∨ (Utf8.decode s k).2 = 4 := by omega
  rcases hn with hn | hn | hn
  · exact Lib.lastStart_at2 _ k (by omega) h0
  · exact Lib.lastStart_at3 _ k (by omega) (startB_f (hc 1 (by omega) (by omega))) h0
  · exact Lib.lastStart_at4 _ k (by omega) (startB_f (hc 2 (by omega) (by omega))) (startB_f (hc 1 (by omega) (by omega))) h0

/-- The last rune of a text is the one that stands last from its front. -/
theorem last_eq {s : ByteArray} (h : 0 < s.size) : Lib.decodeLastL s.data.toList = Utf8.decode s (lastS s) := by
  obtain ⟨hk, hw, hl, hu⟩ := lastS_spec h
  generalize lastS s = k at hk hw hu
  obtain ⟨h4, h192, hc, hasc, herr⟩ := dec_facts s k
  have hd := dec_in s k hk
  have hlen : s.data.toList.length = s.size := rfl
  have hne : s.data.toList ≠ [] := fun e => by rw [e] at hlen; simp at hlen; omega
  unfold Lib.decodeLastL
  rw [if_neg hne, hlen, Lib.getD_get!, Lib.decodeL_drop]
  by_cases h1 : (Utf8.decode s k).2 = 1
  · have ek : s.size - 1 = k := by omega
    rw [ek]
    by_cases ha : (s.get! k).toNat < 128
    · rw [if_pos ha, hasc ha]
    · rw [if_neg ha, herr h1 (by omega)]
      dsimp only
      split
      · rename_i hj
        generalize hjj : Lib.lastStart s.data.toList = j at hj
        have hjl : j < s.size := by rw [← hjj, ← hlen]; exact Lib.lastStart_lt _ hne
        by_cases hjk : j = k
        · rw [hjk]; exact herr h1 (by omega)
        · obtain ⟨j4, j192, _, _, _⟩ := dec_facts s j
          have hm := start_mem hjl (by have := j192 (by omega); omega) s.size 0 (by omega) (by omega)
          exact absurd (hu j hm hj) hjk
      · rfl
  · have hls := lastStart_of (s := s) (k := k) (by omega) hw
    have hb := hc ((Utf8.decode s k).2 - 1) (by omega) (by omega)
    rw [show k + ((Utf8.decode s k).2 - 1) = s.size - 1 by omega] at hb
    rw [if_neg (by omega), hls]
    dsimp only
    rw [if_pos hw]

theorem prefix_size {s : ByteArray} {p : Nat} (h : p ≤ s.size) : (s.extract 0 p).size = p := by simp; omega
theorem prefix_ext {s : ByteArray} {p i n : Nat} (h : p ≤ s.size) (hi : i + n ≤ p) : (s.extract 0 p).extract i (i + n) = s.extract i (i + n) := by
  rw [Lib.extract_eq, Lib.extract_eq, Lib.extract_eq]
  simp only [List.drop_zero, Nat.sub_zero, Nat.add_sub_cancel_left]
  rw [List.drop_take, List.take_take, Nat.min_eq_left (by omega)]
theorem dec3_ok {s : ByteArray} {i : Nat} (h : (dec3 s i).2.2 = false) : Utf8.decode s i = (65533, 1) := by
  unfold dec3 at h
  simp only [Bool.not_eq_false', Bool.and_eq_true, beq_iff_eq] at h
  exact Prod.ext h.1 h.2
theorem put_ok {r : Int} (hv : (0 ≤ r ∧ r < 55296) ∨ (57344 ≤ r ∧ r ≤ 1114111)) : ¬ ((r.toNat, (putS r).size) = (65533, 1)) := by
  intro e
  injection e with e1 e2
  rcases put_cases r with ⟨h, b⟩ | ⟨h, b⟩ | ⟨h, b⟩ | ⟨h, b⟩ | ⟨h, b⟩
  all_goals first | omega | (rw [h] at e2; simp [ByteArray.size] at e2)
/-- A rune that ends within a text's front is read there as in the text. -/
theorem decode_prefix {s : ByteArray} {p i : Nat} (hp : p ≤ s.size) (hi : i < p) (h : i + (Utf8.decode s i).2 ≤ p) : Utf8.decode (s.extract 0 p) i = Utf8.decode s i := by
  have hz := prefix_size hp
  cases hk : (dec3 s i).2.2
  · rw [dec3_ok hk]
    cases hk2 : (dec3 (s.extract 0 p) i).2.2
    · exact dec3_ok hk2
    · obtain ⟨r, hv, he, hs⟩ := ok_put (by omega) hk2
      rw [hz] at hs
      rw [prefix_ext hp hs] at he
      have := (decode_put hv he (by omega)).1
      rw [dec3_ok hk] at this
      exact absurd this.symm (put_ok hv)
  · obtain ⟨r, hv, he, hs⟩ := ok_put (by omega) hk
    have d := (decode_put hv he hs).1
    rw [d] at h ⊢
    exact (decode_put hv (by rw [prefix_ext hp h, he]) (by rw [hz]; exact h)).1
theorem starts_prefix {s : ByteArray} {p : Nat} (hp : p ≤ s.size) : ∀ f g pos, p ≤ pos + g → s.size ≤ pos + f → ∀ i ∈ startsFrom s f pos, i + (Utf8.decode s i).2 ≤ p → i ∈ startsFrom (s.extract 0 p) g pos
  | 0, g, pos, h1, h2, i, hi, he => by simp [startsFrom] at hi
  | f + 1, g, pos, h1, h2, i, hi, he => by
    have hil := starts_lt s _ _ i hi
    have hdi := dec_in s i hil.2
    have hpp : pos < p := by omega
    obtain ⟨g, rfl⟩ : ∃ m, g = m + 1 := ⟨g - 1, by omega⟩
    rw [startsFrom_go (by rw [prefix_size hp]; exact hpp)]
    rw [startsFrom_go (by omega)] at hi
    rcases List.mem_cons.1 hi with rfl | hi
    · exact List.mem_cons_self
    · have hl2 := starts_lt s _ _ i hi
      have hdp := dec_in s pos (by omega)
      rw [decode_prefix hp hpp (by omega)]
      exact List.mem_cons_of_mem _ (starts_prefix hp f g _ (by omega) (by omega) i hi he)
/-- From the end of a rune it is read back. -/
theorem back_at {s : ByteArray} {i : Nat} (hi : i ∈ starts s) : Lib.decodeLastL (s.extract 0 (i + (Utf8.decode s i).2)).data.toList = Utf8.decode s i := by
  have hil := starts_lt s _ _ i hi
  have hd := dec_in s i hil.2
  have hz := prefix_size (s := s) (p := i + (Utf8.decode s i).2) (by omega)
  have hm := starts_prefix (p := i + (Utf8.decode s i).2) (by omega) s.size (s.extract 0 (i + (Utf8.decode s i).2)).size 0 (by omega) (by omega) i hi (Nat.le_refl _)
  have he := decode_prefix (s := s) (p := i + (Utf8.decode s i).2) (i := i) (by omega) (by omega) (Nat.le_refl _)
  rw [last_eq (by omega), ← (lastS_spec (by omega)).2.2.2 i hm (by rw [he, hz]), he]

/-- Each rune stands behind the one ahead. -/
theorem starts_next (s : ByteArray) : ∀ f pos j, j + 1 < (startsFrom s f pos).length → (startsFrom s f pos)[j + 1]?.getD 0 = (startsFrom s f pos)[j]?.getD 0 + (Utf8.decode s ((startsFrom s f pos)[j]?.getD 0)).2
  | 0, _, j, h => by simp [startsFrom] at h
  | f + 1, pos, j, h => by
    by_cases hp : pos < s.size
    · rw [startsFrom_go hp] at h ⊢
      match j with
      | 0 =>
        simp only [List.length_cons] at h
        match f with
        | 0 => simp [startsFrom] at h
        | f + 1 =>
          by_cases h2 : pos + (Utf8.decode s pos).2 < s.size
          · rw [startsFrom_go h2]; simp
          · rw [startsFrom_end h2] at h; simp at h
      | j + 1 =>
        have := starts_next s f (pos + (Utf8.decode s pos).2) j (by simpa using h)
        simpa using this
    · rw [startsFrom_end hp] at h; simp at h
theorem starts_head {s : ByteArray} (h : 0 < s.size) : (starts s)[0]?.getD 0 = 0 := by
  unfold starts
  obtain ⟨f, e⟩ : ∃ f, s.size = f + 1 := ⟨s.size - 1, by omega⟩
  rw [e, startsFrom_go h]; rfl
end Go.Proofs.YtmemdhmjhckmaaaDoor
namespace Go.Proofs.YtmemdhmjhckmaaaDoor
open Go.RowKit

theorem own_iter {w : World} {B k : Nat} {e : TypeId} {m : Nat} {v : Value} {n : Nat} {xs : List Value} (h : w.ownsRow B e m v n xs) (hk : k < B) (s : ByteArray) (pos : Nat) : (w.iterAt k s pos).ownsRow B e m v n xs := by
  refine ⟨h.1, ?_⟩
  rcases h.2 with h0 | ⟨g, cap, cur, rfl, hg, hh, h1, h2, h3, h4⟩
  · exact .inl h0
  · exact .inr ⟨g, cap, cur, rfl, hg, by rw [Lib.iterAt_other _ _ _ _ _ (by omega)]; exact hh, h1, h2, h3, h4⟩
theorem own_mono {w : World} {B C : Nat} {e : TypeId} {m : Nat} {v : Value} {n : Nat} {xs : List Value} (h : w.ownsRow B e m v n xs) (hk : C ≤ B) : w.ownsRow C e m v n xs := by
  refine ⟨h.1, ?_⟩
  rcases h.2 with h0 | ⟨g, cap, cur, rfl, hg, hh, h1, h2, h3, h4⟩
  · exact .inl h0
  · exact .inr ⟨g, cap, cur, rfl, by omega, hh, h1, h2, h3, h4⟩
theorem cst_rel {w wi w1 : World} {v v' : Value} {L : List Nat} {pos pos' : Nat} {s : ByteArray} {o : Obj} {t : TypeId} (hB : Below w.heap.size w wi) (hlt : w.heap.size < wi.heap.size) (hit : wi.heap[w.heap.size]? = some (.stringIter s pos')) (hown : wi.ownsRow (w.heap.size + 1) t 1 v L.length (nats L))
    (hown1 : w1.ownsRow (w.heap.size + 1) t 1 v' (L.length + 1) (nats L ++ [.int .i64 (pos : Int)])) (hgrow : (wi.alloc o).grownBy w1 v.ownBlock) :
    w1.heap[w.heap.size]? = some (.stringIter s pos') ∧ w1.ownsRow (w.heap.size + 1) t 1 v' (L ++ [pos]).length (nats (L ++ [pos])) ∧ Below w.heap.size w w1 := by
  have h1 : Below w.heap.size w w1 := (hB.alloc (by omega) o).grown hgrow (by simp; omega) (fun k e => by have := (hown.lt k e).1; omega)
  refine ⟨?_, by rw [nats_snoc, List.length_append]; exact hown1, h1⟩
  have h2 : Below (w.heap.size + 1) wi w1 := ((Below.refl (w.heap.size + 1) wi).alloc (by omega) o).grown hgrow (by simp; omega) (fun k e => (hown.lt k e).1)
  exact (h2.block w.heap.size (by omega)).trans hit
theorem cst_end {s : ByteArray} {w wr : World} {v : Value} {L : List Nat} {f pos : Nat} (hp : ¬ pos < s.size) (h : L ++ startsFrom s f pos = starts s) (hown : wr.ownsRow (w.heap.size + 1) 3 1 v L.length (nats L)) (hB : Below w.heap.size w wr) : StartsPost s w (.returned v) wr :=
  starts_end hp h (own_mono hown (by omega)) hB

set_option maxHeartbeats 1000000 in
theorem cstarts_any (s : ByteArray) (w : World) (hs : s.size ≤ 1048576) : Calls Tryd.prog 16 #[.string s] w (StartsPost s w) := by
  obtain ⟨i0, hi, hz0, hz1, hz2⟩ := info_parts info_int
  go_enter Tryd.func16, Tryd.ntmps16
  go_wp2
  go_loopw [3] (fun v wr => ∃ (pos f : Nat) (L : List Nat), wr.heap[w.heap.size]? = some (.stringIter s pos) ∧ wr.ownsRow (w.heap.size + 1) 3 1 v L.length (nats L) ∧ Hid (L ++ startsFrom s f pos = starts s) ∧ L.length ≤ pos ∧ s.size ≤ pos + f ∧ pos ≤ s.size ∧ Below w.heap.size w wr) (fun _ wr => s.size - wr.iterPos w.heap.size)
  case atStart => exact ⟨0, s.size, [], World.iter_heap _ _ _, World.ownsRow_nil _ _ _ _, rfl, by simp, by omega, by omega, (Below.refl _ _).alloc (Nat.le_refl _) _⟩
  case round =>
    obtain ⟨pos, f, L, hit, hown, HL, hLp, hf, hpos, hB⟩ := hrel
    by_cases hp : pos < s.size
    · have hnx : ∀ ty, (Instr.next (.pointer (some ⟨w.heap.size, 0, none⟩)) true ty).run Tryd.prog wr = _ := fun ty => Lib.run_next_any_at wr w.heap.size s pos ty hit hp
      have hd := dec_in s pos hp
      obtain ⟨wi, hwi⟩ : ∃ wi, wi = wr.iterAt w.heap.size s (pos + (Utf8.decode s pos).2) := ⟨_, rfl⟩
      have hBi : Below w.heap.size w wi := by rw [hwi]; exact Lib.below_iterAt hB (Nat.le_refl _) _ _
      have hiti : wi.heap[w.heap.size]? = some (.stringIter s (pos + (Utf8.decode s pos).2)) := by rw [hwi]; exact Lib.iterAt_heap _ _ _ _ _ hit
      have hlt : w.heap.size < wi.heap.size := by rw [hwi, Lib.iterAt_size]; exact (Array.getElem?_eq_some_iff.1 hit).1
      have howni := own_iter hown (show w.heap.size < w.heap.size + 1 by omega) s (pos + (Utf8.decode s pos).2)
      rw [← hwi] at hnx howni
      have HS := hide (starts_step hp HL.out hf)
      have HBI := hide hBi
      have HITI := hide hiti
      have HIT := hide hit
      clear hwi hBi hiti hit hB hown HL
      go_wp2_with (at_builtin; refine wpList_append_own _ rfl _ _ 44 rfl (w.heap.size + 1) 3 i0 (.int .i64 0) 1 8 Tryd.underlying44 hi hz0 hz1 hz2 rfl (by decide) _ _ _ rfl (howni.alloc _) ⟨wi.heap.size, 0, none⟩ 1 1 [.int .i64 pos] rfl rfl (cell_one_new _ _ _) (by simp [Value.oneCell']) (by unfold maxLen; omega) (by omega) (by simp; omega) ?_; intro v' w1 hown1 hgrow1 _)
      have R := hide (cst_rel HBI.out hlt HITI.out howni hown1 hgrow1)
      clear howni hown1 hgrow1
      go_roundw
      case rel => exact ⟨pos + (Utf8.decode s pos).2, f - 1, L ++ [pos], R.out.1, R.out.2.1, HS.out, by simp; omega, by omega, by omega, R.out.2.2⟩
      case measure => simp only [World.iterPos]; rw [R.out.1, HIT.out]; dsimp only; omega
    · have hnx : ∀ ty, (Instr.next (.pointer (some ⟨w.heap.size, 0, none⟩)) true ty).run Tryd.prog wr = _ := fun ty => Lib.run_next_end_at wr w.heap.size s pos ty hit hp
      go_wp2
      go_ret
      exact cst_end hp HL.out hown hB

end Go.Proofs.YtmemdhmjhckmaaaDoor
namespace Go.Proofs.YtmemdhmjhckmaaaDoor
open Go.RowKit
set_option maxRecDepth 100000

theorem own_ne {W : World} {B B' k k' n n' : Nat} {e e' : TypeId} {v v' : Value} {xs xs' : List Value} (h : W.ownsRow B e k v n xs) (h' : W.ownsRow B' e' k' v' n' xs') (he : e ≠ e') {g : Nat} (hv : v.ownBlock = some g) : v'.ownBlock = none ∨ v'.ownBlock ≠ some g := by
  rcases h'.2 with ⟨rfl, -⟩ | ⟨g', cap', cur', rfl, -, hh', -⟩
  · exact .inl rfl
  · right
    intro e9
    rcases h.2 with ⟨rfl, -⟩ | ⟨g1, cap1, cur1, rfl, -, hh, -⟩
    · cases hv
    · simp only [Value.ownBlock, Option.some.injEq] at hv e9
      subst hv e9
      rw [hh] at hh'
      injection hh' with a
      injection a with a1 a2
      exact he a2
theorem OwnS.formG {W : World} {B : Nat} {v : Value} {L : List ByteArray} (h : OwnS W B v L) {n : Nat} (hn : L.length = n) (h0 : 0 < n) : ∃ g c, v = .slice (some ⟨g, 0, none⟩) n c := by
  subst hn
  rcases h.2 with ⟨rfl, h1⟩ | ⟨g, cap, cur, rfl, -⟩
  · omega
  · exact ⟨_, _, rfl⟩
theorem OwnS.k2 {W V : World} {B z g : Nat} {v : Value} {L : List ByteArray} (h : OwnS W B v L) (hk : K2 z g W V) (hz : z < B) (hg : g < B) : OwnS V B v L := by
  refine ⟨h.1, ?_⟩
  rcases h.2 with h0 | ⟨g', cap, cur, rfl, hb, hh, r⟩
  · exact .inl h0
  · exact .inr ⟨g', cap, cur, rfl, hb, (hk.block g' (Array.getElem?_eq_some_iff.1 hh).1 (by omega) (by omega)).trans hh, r⟩
theorem StrV.get {W : World} {A : Option Addr} {n c : Nat} {L : List ByteArray} (h : StrV W (.slice A n c) L) {j : Nat} {s : ByteArray} (hj : L[j]? = some s) : ∃ b o, A = some ⟨b, o, none⟩ ∧ W.cell? ⟨b, o + j, none⟩ = some (.string s) := by
  obtain ⟨A', c', e, -, h1⟩ := h
  injection e with e1 e2 e3
  subst e1
  obtain ⟨b, o, e, -, h2⟩ := h1 j s hj
  exact ⟨b, o, e, h2⟩
/-- The terminal that is told nothing yet, the rows that are wanted, and where runes stand. -/
structure TxW (w0 w4 : World) (za ga ca C : Nat) (sv : Value) (S : List Nat) (wv : Value) (L : List ByteArray) (W : World) : Prop where
  tm : TmB w0 W za ga ca (newM 40 C)
  own : OwnS W w4.heap.size wv L
  st : W.ownsRow w4.heap.size 3 1 sv S.length (nats S)
  hz : za < w4.heap.size
  hg : ga < w4.heap.size
  size : w4.heap.size ≤ W.heap.size
  b0 : w0.heap.size ≤ w4.heap.size
theorem TxW.low {w0 w4 W V : World} {za ga ca C : Nat} {sv wv : Value} {S : List Nat} {L : List ByteArray} (h : TxW w0 w4 za ga ca C sv S wv L W) (hb : Below W.heap.size W V) : TxW w0 w4 za ga ca C sv S wv L V :=
  ⟨h.tm.low hb, h.own.below hb, own_below h.st hb, h.hz, h.hg, Nat.le_trans h.size hb.size, h.b0⟩
theorem TxW.grow {w0 w4 W V : World} {za ga ca C g n c : Nat} {sv wv : Value} {S : List Nat} {L M : List ByteArray} (h : TxW w0 w4 za ga ca C sv S (.slice (some ⟨g, 0, none⟩) n c) L W) (hg : W.grownBy V (some g)) (ho : OwnS V w4.heap.size wv M) : TxW w0 w4 za ga ca C sv S wv M V := by
  have hge : w4.heap.size ≤ g := (World.ownsRow.lt h.own g rfl).1
  have h1 := h.hz
  have h2 := h.hg
  have h3 := h.b0
  exact ⟨h.tm.keep (K2.grown (z := g) hg) (by omega) (by omega) (by omega) (by omega) (by omega) (by omega), ho, h.st.kept hg (own_ne h.own h.st (by decide) rfl), h1, h2, Nat.le_trans h.size hg.size, h3⟩
theorem TxW.store {w0 w4 W : World} {za ga ca C g n c : Nat} {sv : Value} {S : List Nat} {D : List ByteArray} {b : ByteArray} (h : TxW w0 w4 za ga ca C sv S (.slice (some ⟨g, 0, none⟩) n c) (D ++ [b]) W) (hn : D.length + 1 = n) (p : Nat) (hp : D.length = p) (b' : ByteArray) :
    TxW w0 w4 za ga ca C sv S (.slice (some ⟨g, 0, none⟩) n c) (D ++ [b']) (W.setCell ⟨g, p, none⟩ (.string b')) := by
  have hl : (D ++ [b]).length = n := by rw [List.length_append]; exact hn
  have ho : W.ownsRow w4.heap.size 9 1 (.slice (some ⟨g, 0, none⟩) n c) n ((D ++ [b]).map Value.string) := by
    have := h.own
    unfold OwnS at this
    rwa [hl] at this
  obtain ⟨h1, h2⟩ := ho.stored p (.string b')
  refine h.grow h2 ?_
  unfold OwnS
  have hl2 : (D ++ [b']).length = n := by rw [List.length_append]; exact hn
  have hm : ((D ++ [b]).map Value.string).set p (.string b') = (D ++ [b']).map Value.string := by
    rw [← List.map_set]
    subst hp
    simp
  rw [hl2, ← hm]
  exact h1
theorem TxW.read {w0 w4 W : World} {za ga ca C g n c : Nat} {sv : Value} {S : List Nat} {D : List ByteArray} {b : ByteArray} (h : TxW w0 w4 za ga ca C sv S (.slice (some ⟨g, 0, none⟩) n c) (D ++ [b]) W) (hn : D.length + 1 = n) (p : Nat) (hp : D.length = p) :
    W.cell? ⟨g, p, none⟩ = some (.string b) ∧ W.frozen? ⟨g, p, none⟩ = false := by
  have hl : (D ++ [b]).length = n := by rw [List.length_append]; exact hn
  have ho : W.ownsRow w4.heap.size 9 1 (.slice (some ⟨g, 0, none⟩) n c) n ((D ++ [b]).map Value.string) := by
    have := h.own
    unfold OwnS at this
    rwa [hl] at this
  refine ⟨?_, ho.frozenAt p⟩
  rw [ho.cellAt p (by omega)]
  subst hp
  simp
theorem tx_at {C : Nat} {s : ByteArray} {k i : Nat} {D : List ByteArray} {c x : ByteArray} {u : Nat} (hi : (starts s)[k]? = some i) (hq : (⟨D, c, u, x⟩ : Tx) = txTo C s k) :
    txTo C s (k + 1) = if runeOk s i = true ∧ cells ((Utf8.decode s i).1 : Int) ≠ 0 ∧ D.length + 1 ≠ 40 then txPut C ⟨D, c, u, x⟩ ((Utf8.decode s i).1 : Int) else ⟨D, c, u, x⟩ := by
  rw [txTo_step hi, ← hq]
  rfl
theorem TxI.c_le {C : Nat} {D : List ByteArray} {c : ByteArray} {u : Nat} {t : Tm} (h : TxI C D c u t) : c.size ≤ 800 := by
  have hC := h.i.hC
  rw [h.cols] at hC
  have h1 := shB_le ((rowL t.cs C D.length).take u)
  rw [h.now] at h1
  have h2 : ((rowL t.cs C D.length).take u).length ≤ C := by unfold rowL; rw [List.length_take, List.length_take]; omega
  have h3 : c.size = c.data.toList.length := rfl
  omega
set_option maxHeartbeats 4000000 in
theorem lawText (w : World) (hT : Tabs w) (s : ByteArray) (a0 a1 : Nat) (ha0 : a0 < 256) (ha1 : a1 < 256) (hsm : s.size ≤ maxLen) :
    Calls Tryd.prog 4 #[.string s, .agg #[.int .u8 (a0 : Int), .int .u8 (a1 : Int)]] w fun e W' => e = .returned (.bool true) ∧ Below w.heap.size w W' := by
  obtain ⟨i0, hinf, hz0, hz1, hz2⟩ := info_parts info_strG
  unfold maxLen at hsm
  have HWR := hide (fun (V : World) (h : Below w.heap.size w V) => wrapped_any w V hT h)
  have hbx : Below w.heap.size w (w.alloc (.cells #[.int .u8 (a0 : Int), .int .u8 (a1 : Int)] 22)) := (Below.refl _ _).alloc (Nat.le_refl _) _
  by_cases hl : 300 < s.size
  · have q1 : (300 : Int) < (s.size : Int) := by omega
    go_enter Tryd.func4, Tryd.ntmps4
    go_wp2_with fail
    refine (HWR.out _ hbx).mono ?_; rintro e w1 ⟨rfl, hb1⟩
    have HF := hide (hbx.trans (hb1.mono hbx.size))
    clear hbx hb1
    go_wp2
    go_ret
    exact ⟨rfl, HF.out⟩
  have q1 : ¬ (300 : Int) < (s.size : Int) := by omega
  obtain ⟨r1, hr1⟩ : ∃ r, a1 % 9 = r := ⟨_, rfl⟩
  have hr1b : r1 < 9 := by omega
  have t1 : Int.tmod (a1 : Int) 9 = (r1 : Int) := by rw [Int.tmod_eq_emod_of_nonneg (by omega)]; omega
  have u1 : (a1 : Int) % 9 = (r1 : Int) := by omega
  obtain ⟨C, hC⟩ : ∃ r, 8 + r1 = r := ⟨_, rfl⟩
  have v1 : IntKind.i64.wrap (8 + (r1 : Int)) = (C : Int) := (Go.wrap_small _ (by omega) (by omega)).trans (by omega)
  have hm : mayB ((40 : Nat) : Int) C = true := by unfold mayB; simp; omega
  have hCb : 8 ≤ C ∧ C ≤ 16 := by omega
  have hI := Inv.new hm
  have hst : StOk 0 (newM 40 C).p := .inl ⟨rfl, rfl⟩
  have HNW := hide (fun (V : World) (h : Below w.heap.size w V) => (show Calls Tryd.prog 9 #[.int .i64 40, .int .i64 (C : Int)] V fun e W' => ∃ z g cap, e = .returned (.tuple #[.pointer (some ⟨z, 0, none⟩), .int .i64 0]) ∧ TmB w W' z g cap (newM 40 C) ∧ Below V.heap.size V W' ∧ V.heap.size ≤ z ∧ V.heap.size ≤ g from tnew_any 40 C hm w V hT h))
  have HTX := hide (fun k => txTo_ok (C := C) hm s k)
  have HBX := hide hbx
  have HBK := hide (Blk.new w 22 [.int .u8 (a0 : Int), .int .u8 (a1 : Int)])
  rw [show [Value.int .u8 (a0 : Int), .int .u8 (a1 : Int)].toArray = #[.int .u8 (a0 : Int), .int .u8 (a1 : Int)] from rfl] at HBK
  obtain ⟨y, hy⟩ : ∃ q, w.heap.size = q := ⟨_, rfl⟩
  obtain ⟨W0, hW0⟩ : ∃ V, w.alloc (.cells #[.int .u8 (a0 : Int), .int .u8 (a1 : Int)] 22) = V := ⟨_, rfl⟩
  rw [hW0] at HBX HBK
  rw [hy] at HBK
  have y1 := HBK.out.cell (i := 1) rfl
  have HII := hide hI
  have HST := hide hst
  have HT := hide hT
  clear hbx hr1 hC hm hI hst hT
  go_enter Tryd.func4, Tryd.ntmps4
  go_wp2_with fail
  go_region
  (try rw [hW0])
  have HB0 := hide (show Below w.heap.size w W0.drew from HBX.out.drew)
  obtain ⟨W1, hW1⟩ : ∃ V, W0.drew = V := ⟨_, rfl⟩
  rw [hW1] at HB0
  (try rw [hW1])
  clear hW0 hW1 y1 hy HBK HBX
  go_wp2_with fail
  refine (HNW.out _ HB0.out).mono ?_; rintro e w4 ⟨za, ga, ca, rfl, A4, hb4, hz4, hg4⟩
  have HA4 := hide A4
  have HB4 := hide (HB0.out.trans (hb4.mono HB0.out.size))
  have zlt : za < w4.heap.size := A4.b.lt
  have glt : ga < w4.heap.size := A4.own.ltG
  have HZL := hide zlt
  have HGL := hide glt
  clear A4 hb4 hz4 hg4 zlt glt HNW
  go_wp2_with fail
  have HL0 := hide (show OwnS (w4.alloc (.cells #[.string ⟨#[]⟩] 9)) w4.heap.size (.slice (some ⟨w4.heap.size, 0, none⟩) 1 1) [⟨#[]⟩] from World.ownsRow_lit w4 #[.string ⟨#[]⟩] 1 (Nat.le_refl _) (by unfold maxLen; decide) rfl)
  have HBL := hide (show Below w4.heap.size w4 (w4.alloc (.cells #[.string ⟨#[]⟩] 9)) from (Below.refl _ _).alloc (Nat.le_refl _) _)
  refine (cstarts_any s _ (by omega)).mono ?_; rintro e w5 ⟨A, cS, rfl, ho5, hb5⟩
  have HW5 := hide (show TxW w w4 za ga ca C (.slice A (starts s).length cS) (starts s) (.slice (some ⟨w4.heap.size, 0, none⟩) 1 1) ([] ++ [⟨#[]⟩]) w5 from
    ⟨(HA4.out.low HBL.out).low hb5, HL0.out.below hb5, own_mono ho5 HBL.out.size, HZL.out, HGL.out, Nat.le_trans HBL.out.size hb5.size, HB4.out.size⟩)
  have hns := starts_len s
  have HSL := hide (fun k i (h : (starts s)[k]? = some i) => (starts_lt s s.size 0 i (List.mem_of_getElem? h)).2)
  obtain ⟨n, hn⟩ : ∃ n, (starts s).length = n := ⟨_, rfl⟩
  rw [hn] at HW5 hns ho5 ⊢
  have HN := hide hn
  clear ho5 hb5 HL0 HBL HA4 HZL HGL hn
  go_wp2_with fail
  go_loopw [9, 10, 11, 13] (fun wv uv xv iv wr => ∃ (k M u g c : Nat) (D : List ByteArray) (cc x : ByteArray), iv = .int .i64 (k : Int) ∧ k ≤ n ∧ wv = .slice (some ⟨g, 0, none⟩) M c ∧ uv = .int .i64 (u : Int) ∧ xv = .string x ∧ Hid ((⟨D, cc, u, x⟩ : Tx) = txTo C s k) ∧ Hid (D.length + 1 = M) ∧ Hid (TxW w w4 za ga ca C (.slice A n cS) (starts s) (.slice (some ⟨g, 0, none⟩) M c) (D ++ [cc]) wr)) (fun _ _ _ iv _ => n - (intOf iv).toNat)
  case atStart => exact ⟨0, 1, 0, _, _, [], ⟨#[]⟩, ⟨#[]⟩, rfl, by omega, rfl, rfl, rfl, hide rfl, hide rfl, HW5⟩
  case round =>
    clear HW5
    obtain ⟨k, M, u, g, c, D, cc, x, rfl, hk, rfl, rfl, rfl, HQ, HM, HW⟩ := hrel
    by_cases hlt : k < n
    · obtain ⟨i, hi⟩ : ∃ i, (starts s)[k]? = some i := ⟨_, List.getElem?_eq_getElem (by rw [HN.out]; exact hlt)⟩
      have his := HSL.out k i hi
      obtain ⟨gs, rfl, hci⟩ := NatsAt.of_own (A := A) (c := cS) (L := starts s) (by have := HW.out.st; rw [HN.out] at this ⊢; exact this) k (by rw [HN.out]; exact hlt)
      rw [hi] at hci
      change wr.cell? ⟨gs, k, none⟩ = some (.int .i64 (i : Int)) at hci
      have HNX := hide (next_any s i wr (by omega) his (HT.out.below HW.out.tm.below).u)
      have HQ1 := hide (tx_at hi HQ.out)
      have hok := HTX.out k
      rw [← HQ.out] at hok
      have hx4 := hok.x
      have huC := hok.u
      have hD4 := hok.d
      have hcc := hok.i.c_le
      dsimp only at hx4 huC hD4 hcc
      clear hok
      obtain ⟨r, hr⟩ : ∃ r : Int, ((Utf8.decode s i).1 : Int) = r := ⟨_, rfl⟩
      obtain ⟨nn, hnn⟩ : ∃ r : Int, ((Utf8.decode s i).2 : Int) = r := ⟨_, rfl⟩
      obtain ⟨ok, hok⟩ : ∃ b, runeOk s i = b := ⟨_, rfl⟩
      rw [hr, hnn, hok] at HNX
      rw [hr, hok] at HQ1
      have hOF := fun V (hV : WTabs V) => wof_any r V hV
      obtain ⟨m, hm⟩ : ∃ m : Nat, cells r = m := ⟨(cells r).toNat, by have := cells_bd r; omega⟩
      have hwid : widN r = m := by unfold widN; rw [hm]; rfl
      have hm2 : m ≤ 2 := by have := cells_bd r; omega
      rw [hm] at hOF HQ1
      unfold txPut at HQ1
      rw [hwid] at HQ1
      dsimp only at HQ1
      have HOF := hide hOF
      have HPT := hide (fun V => gput_any r V)
      obtain ⟨t, ht⟩ : ∃ t, putS r = t := ⟨_, rfl⟩
      have ht4 : t.size ≤ 4 := by rw [← ht]; exact putS_le r
      rw [ht] at HPT HQ1
      have hM := HM.out
      clear hr hnn hok hOF hm hwid ht hi
      go_wp2_with fail
      refine HNX.out.mono ?_; rintro e w6 ⟨rfl, hb6⟩
      have HW6 := hide (HW.out.low hb6)
      clear hb6 HW HNX hci
      go_wp2_with fail
      refine (HOF.out _ (HT.out.below HW6.out.tm.below).w).mono ?_; rintro e w7 ⟨rfl, hb7⟩
      have HW7 := hide (HW6.out.low hb7)
      clear hb7 HW6 HOF
      by_cases hok : ok = true
      case neg =>
        obtain rfl : ok = false := by simpa using hok
        have HQ2 := hide (show (⟨D, cc, u, x⟩ : Tx) = txTo C s (k + 1) by rw [HQ1.out, if_neg (by rintro ⟨h, -⟩; cases h)])
        clear HQ1 HQ hok hx4 huC hD4 hcc ht4 HPT hM
        go_wp2
        exact ⟨⟨k + 1, M, u, g, c, D, cc, x, by go_num, by omega, rfl, rfl, rfl, HQ2, HM, HW7⟩, by simp [intOf]; omega⟩
      subst hok
      by_cases hm0 : m = 0
      · subst hm0
        have HQ2 := hide (show (⟨D, cc, u, x⟩ : Tx) = txTo C s (k + 1) by rw [HQ1.out, if_neg (by rintro ⟨-, h, -⟩; exact h rfl)])
        clear HQ1 HQ hx4 huC hD4 hcc ht4 HPT hM
        go_wp2
        exact ⟨⟨k + 1, M, u, g, c, D, cc, x, by go_num, by omega, rfl, rfl, rfl, HQ2, HM, HW7⟩, by simp [intOf]; omega⟩
      have b1 : ((m : Int) == 0) = false := by simp; omega
      by_cases hM40 : M = 40
      · have b2 : ((M : Int) == 40) = true := by simp; omega
        have HQ2 := hide (show (⟨D, cc, u, x⟩ : Tx) = txTo C s (k + 1) by rw [HQ1.out, if_neg (by rintro ⟨-, -, h⟩; omega)])
        clear HQ1 HQ hx4 huC hD4 hcc ht4 HPT hM hM40 hm0
        go_wp2
        exact ⟨⟨k + 1, M, u, g, c, D, cc, x, by go_num, by omega, rfl, rfl, rfl, HQ2, HM, HW7⟩, by simp [intOf]; omega⟩
      have b2 : ((M : Int) == 40) = false := by simp; omega
      have HQ3 := hide (show txTo C s (k + 1) = _ from HQ1.out.trans (if_pos ⟨rfl, by omega, by omega⟩))
      by_cases hu : u + m ≤ C
      · have HQ2 := hide (show (⟨D, cc ++ t, u + m, x ++ t⟩ : Tx) = txTo C s (k + 1) by rw [HQ3.out, if_pos hu])
        have g1 : ¬ (C : Int) < (u : Int) + (m : Int) := by omega
        clear HQ1 HQ HQ3 hM40 hm0
        obtain ⟨p, hp⟩ : ∃ p, D.length = p := ⟨_, rfl⟩
        have hpM : M = p + 1 := by have := HM.out; omega
        have w1 : IntKind.i64.wrap ((M : Int) - 1) = (p : Int) := (Go.wrap_small _ (by omega) (by omega)).trans (by omega)
        have p0 : (0 : Int) ≤ (p : Int) := by omega
        have p1 : (p : Int) < (M : Int) := by omega
        obtain ⟨c1, f1⟩ := HW7.out.read HM.out p hp
        have HST8 := hide (fun b => HW7.out.store HM.out p hp b)
        have n1 : ¬ 9223372036854775807 < cc.size + t.size := by omega
        have n2 : ¬ 9223372036854775807 < x.size + t.size := by omega
        clear HW7 hp hpM hcc hx4 hM hD4 hu ht4
        go_wp2_with fail
        go_region_with (first
          | (go_at_call 19; refine (HPT.out _).mono ?_; rintro e w9 ⟨rfl, rfl⟩)
          | fail)
        all_goals (
          have HW9 := hide ((HST8.out (cc ++ t)).low (Below.refl _ _).drew)
          clear HST8 c1 f1
          go_wp2_with (first
            | (go_at_call 19; refine (HPT.out _).mono ?_; rintro e w10 ⟨rfl, rfl⟩)
            | fail)
          exact ⟨⟨k + 1, M, u + m, g, c, D, cc ++ t, x ++ t, by go_num, by omega, rfl, by go_num, rfl, HQ2, HM, HW9⟩, by simp [intOf]; omega⟩)
      · have HE9 := hide (show (⟨#[]⟩ : ByteArray) ++ t = t from ByteArray.empty_append)
        have g1 : (C : Int) < (u : Int) + (m : Int) := by omega
        have HA8 := hide (HW7.out.low (show Below w7.heap.size w7 (w7.alloc (.cells #[.string ⟨#[]⟩] 9)) from (Below.refl _ _).alloc (Nat.le_refl _) _))
        have hlD : (D ++ [cc]).length = M := by rw [List.length_append]; exact HM.out
        have HM8 := hide (show (D ++ [cc]).length + 1 = M + 1 by rw [hlD])
        have hM41 : M ≤ 40 := by omega
        clear HQ1 HQ hM40 hm0
        go_wp2_with (first
          | (at_builtin; refine wpList_append_own _ rfl _ _ 43 rfl w4.heap.size 9 i0 _ 1 16 Tryd.underlying43 hinf hz0 hz1 hz2 (by rfl) (by decide) (.slice (some ⟨g, 0, none⟩) M c) _ _ rfl HA8.out.own ⟨w7.heap.size, 0, none⟩ 1 1 [.string ⟨#[]⟩] rfl rfl (one_str w7 ⟨#[]⟩) (by simp [Value.oneCell']) (by rw [hlD]; unfold maxLen; omega) (by rw [hlD]; omega) (by have := HW7.out.size; simp; omega) ?_; intro v8 w8 ho8 hgr8 _; have ho9 := own_str1 ho8; obtain ⟨g8, c8, rfl⟩ := ho9.formG (n := M + 1) (by rw [List.length_append, hlD]; rfl) (Nat.succ_pos _); have HW8 := hide (HA8.out.grow hgr8 ho9); clear ho8 hgr8 ho9)
          | fail)
        obtain ⟨e0, he0⟩ : ∃ e0, (⟨#[]⟩ : ByteArray) = e0 := ⟨_, rfl⟩
        have he1 : e0.size = 0 := by rw [← he0]; rfl
        rw [he0] at HW8 HE9
        have HQ2 := hide (show (⟨D ++ [cc], e0 ++ t, m, x ++ t⟩ : Tx) = txTo C s (k + 1) by rw [HQ3.out, if_neg hu, HE9.out])
        clear HQ3 he0 HE9
        obtain ⟨M8, hM8⟩ : ∃ q, M + 1 = q := ⟨_, rfl⟩
        rw [hM8] at HW8 HM8
        (try rw [hM8])
        obtain ⟨p, hp⟩ : ∃ p, (D ++ [cc]).length = p := ⟨_, rfl⟩
        have hpM : M8 = p + 1 := by have := HM8.out; omega
        have w1 : IntKind.i64.wrap ((M8 : Int) - 1) = (p : Int) := (Go.wrap_small _ (by omega) (by omega)).trans (by omega)
        have p0 : (0 : Int) ≤ (p : Int) := by omega
        have p1 : (p : Int) < (M8 : Int) := by omega
        obtain ⟨c1, f1⟩ := HW8.out.read HM8.out p hp
        have HST8 := hide (fun b => HW8.out.store HM8.out p hp b)
        have n1 : ¬ 9223372036854775807 < e0.size + t.size := by omega
        have n2 : ¬ 9223372036854775807 < x.size + t.size := by omega
        clear HW8 HW7 hp hpM hcc hx4 hM hD4 hu ht4 he1 hM8
        go_wp2_with fail
        go_region_with (first
          | (go_at_call 19; refine (HPT.out _).mono ?_; rintro e w9 ⟨rfl, rfl⟩)
          | fail)
        all_goals (
          have HW9 := hide ((HST8.out (e0 ++ t)).low (Below.refl _ _).drew)
          clear HST8 c1 f1
          go_wp2_with (first
            | (go_at_call 19; refine (HPT.out _).mono ?_; rintro e w10 ⟨rfl, rfl⟩)
            | fail)
          exact ⟨⟨k + 1, M8, m, g8, c8, (D ++ [cc]), e0 ++ t, x ++ t, by go_num, by omega, rfl, by go_num, rfl, HQ2, HM8, HW9⟩, by simp [intOf]; omega⟩)
    · obtain rfl : k = n := by omega
      have hok := HTX.out k
      rw [← HQ.out] at hok
      have hx4 := hok.x
      have HTI := hide hok.i
      dsimp only at hx4 HTI
      have hM := HM.out
      clear hok HQ HTX HSL
      go_wp2_with fail
      refine (twrite_any (newM 40 C) HW.out.tm HT.out HII.out x (by omega) 0 (by omega) HST.out (by show (0 : Nat) ≤ _; omega)).mono ?_; rintro e w5 ⟨rfl, A5, k5⟩
      have HO5 := hide (HW.out.own.k2 k5 HW.out.hz HW.out.hg)
      have HA5 := hide A5
      obtain ⟨tt, htt⟩ : ∃ tt, writeM (newM 40 C) x = tt := ⟨_, rfl⟩
      rw [htt] at HA5 HTI
      have hin : 0 < tt.cs.length ∧ tt.cs.length ≤ 20000 := by
        have h := HTI.out.i
        rw [h.hL]
        exact ⟨Nat.mul_pos (by have := h.hR; omega) (by have := h.hC; omega), Nat.le_trans (Nat.mul_le_mul h.hR.2 h.hC.2) (by decide)⟩
      have HFR := hide (fun (V : World) (z g cap : Nat) (H : TmB w V z g cap tt) => tframe_any _ H hin.1 hin.2)
      clear A5 k5 HW htt hin
      go_wp2_with fail
      refine (HFR.out _ za ga ca HA5.out).mono ?_; rintro e w6 ⟨v6, rfl, hf6, hb6⟩
      have HB6 := hide (HA5.out.below.trans (hb6.mono HA5.out.sz))
      have HO6 := hide (HO5.out.below hb6)
      have F6 := hide hf6.at
      clear hf6 hb6 HA5 HO5 HFR
      obtain ⟨R, hR0, hR1, hR2⟩ : ∃ R, rowsF (frM tt) = R ∧ R.length = 40 ∧ ∀ (i : Nat) (b : ByteArray), (D ++ [cc])[i]? = some b → ∃ g : ByteArray, R[i]? = some g ∧ b.size ≤ g.size ∧ g.size ≤ 800 ∧ g.extract 0 b.size = b := ⟨_, rfl, (tx_rows HTI.out).1, (tx_rows HTI.out).2.2⟩
      have hM40 : M ≤ 40 := by have := (tx_rows HTI.out).2.1; omega
      have HRO := hide (rows_any (frM tt) v6 w6 F6.out (HT.out.below HB6.out).w)
      rw [hR0] at HRO
      have HR1 := hide hR1
      have HR2 := hide hR2
      clear hR0 hR1 hR2 F6
      go_wp2_with fail
      refine HRO.out.mono ?_; rintro e w7 ⟨v7, rfl, ho7, hb7⟩
      have HB7 := hide (HB6.out.trans (hb7.mono HB6.out.size))
      have HS7 := hide (ho7.reads (by rw [HR1.out]; decide))
      have HL7 := hide ((HO6.out.below hb7).reads (by rw [List.length_append]; have := HM.out; simp only [List.length_singleton]; omega))
      obtain ⟨A7, c7, rfl, -⟩ := ho7.formL HR1.out
      have hlD : (D ++ [cc]).length = M := by rw [List.length_append]; exact HM.out
      have HLD := hide hlD
      clear ho7 hb7 HO6 HRO HB6 hlD
      go_wp2_with fail
      go_loopw [19] (fun jv wr => ∃ j : Nat, jv = .int .i64 (j : Int) ∧ j ≤ M ∧ Hid (Below w.heap.size w wr) ∧ Hid (Below w7.heap.size w7 wr)) (fun jv _ => M - (intOf jv).toNat)
      case atStart => exact ⟨0, rfl, by omega, HB7, hide (Below.refl _ _)⟩
      case round =>
        obtain ⟨j, rfl, hj, HB, HB8⟩ := hrel
        by_cases hjM : j < M
        · obtain ⟨b, hb⟩ : ∃ b, (D ++ [cc])[j]? = some b := ⟨_, List.getElem?_eq_getElem (by rw [HLD.out]; exact hjM)⟩
          obtain ⟨gg, hg1, hg2, hg3, hg4⟩ := HR2.out j b hb
          obtain ⟨b1, o1, rfl, x1⟩ := (HS7.out.below HB8.out).get hg1
          obtain ⟨b2, o2, q2, x2⟩ := (HL7.out.below HB8.out).get hb
          injection q2 with q2
          injection q2 with q2 q3
          subst q2 q3
          rw [Nat.zero_add] at x2
          have l1 : ¬ (gg.size : Int) < (b.size : Int) := by omega
          have l3 : ¬ gg.size < b.size := by omega
          have ld : decide (gg.size < b.size) = false := decide_eq_false l3
          have l2 : (b.size : Int) ≤ (gg.size : Int) := by omega
          have j40 : (j : Int) < 40 := by omega
          clear hb hg1 hg2
          go_wp2_with fail
          go_region
          all_goals go_wp2
          exact ⟨⟨j + 1, by go_num, by omega, hide HB.out.drew, hide HB8.out.drew⟩, by simp [intOf]; omega⟩
        · obtain rfl : j = M := by omega
          go_wp2_with fail
          refine (HWR.out _ HB.out).mono ?_; rintro e w9 ⟨rfl, hb9⟩
          have HB9 := hide (HB.out.trans (hb9.mono HB.out.size))
          clear hb9
          go_wp2
          go_ret
          exact ⟨rfl, HB9.out⟩
end Go.Proofs.YtmemdhmjhckmaaaDoor
