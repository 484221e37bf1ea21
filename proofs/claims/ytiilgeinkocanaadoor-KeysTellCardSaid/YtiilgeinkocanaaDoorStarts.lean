/- Contract of limnerref01.Starts. -/
import Derived.Test.YtiilgeinkocanaaDoorNext
import Derived.Laws.OwnMore
import Derived.Maps.AppendAt
import Derived.OwnWalk
namespace Go.Proofs.YtiilgeinkocanaaDoor
open Go.RowKit

/-- Where runes stand, and bytes that are of none, from a place on. -/
def startsFrom (s : ByteArray) : Nat → Nat → List Nat
  | 0, _ => []
  | f + 1, pos => if pos < s.size then pos :: startsFrom s f (pos + (Utf8.decode s pos).2) else []
def starts (s : ByteArray) : List Nat := startsFrom s s.size 0
theorem startsFrom_end {s : ByteArray} {f pos : Nat} (h : ¬ pos < s.size) : startsFrom s f pos = [] := by
  cases f with
  | zero => rfl
  | succ f => simp only [startsFrom]; rw [if_neg h]
theorem startsFrom_go {s : ByteArray} {f pos : Nat} (h : pos < s.size) : startsFrom s (f + 1) pos = pos :: startsFrom s f (pos + (Utf8.decode s pos).2) := by
  simp only [startsFrom]; rw [if_pos h]
theorem starts_step {s : ByteArray} {f pos : Nat} {L T : List Nat} (hp : pos < s.size) (h : L ++ startsFrom s f pos = T) (hf : s.size ≤ pos + f) : L ++ [pos] ++ startsFrom s (f - 1) (pos + (Utf8.decode s pos).2) = T := by
  obtain ⟨f, rfl⟩ : ∃ g, f = g + 1 := ⟨f - 1, by omega⟩
  rw [startsFrom_go hp] at h
  simpa using h
theorem starts_lt (s : ByteArray) : ∀ f pos, ∀ k ∈ startsFrom s f pos, pos ≤ k ∧ k < s.size
  | 0, _, k, h => by simp [startsFrom] at h
  | f + 1, pos, k, h => by
    simp only [startsFrom] at h
    split at h
    · rename_i hp
      rcases List.mem_cons.1 h with rfl | h
      · exact ⟨Nat.le_refl _, hp⟩
      · have := starts_lt s f _ k h; omega
    · cases h
theorem startsFrom_len (s : ByteArray) : ∀ f pos, (startsFrom s f pos).length ≤ f
  | 0, _ => by simp [startsFrom]
  | f + 1, pos => by
    simp only [startsFrom]
    split
    · have := startsFrom_len s f (pos + (Utf8.decode s pos).2); simp only [List.length_cons]; omega
    · simp
theorem starts_len (s : ByteArray) : (starts s).length ≤ s.size := startsFrom_len s _ _

/-- A list of places as cells. -/
def nats (L : List Nat) : List Value := L.map fun (k : Nat) => Value.int .i64 (k : Int)
theorem nats_snoc (L : List Nat) (k : Nat) : nats (L ++ [k]) = nats L ++ [.int .i64 (k : Int)] := by simp [nats]
theorem info_int : (Tryd.prog.info? 3).map (fun i => (i.zero, i.size, i.bytes)) = some (some (.int .i64 0), 1, 8) := by kernel_rfl
theorem own_form {w : World} {B : Nat} {e : TypeId} {k : Nat} {v : Value} {n : Nat} {xs : List Value} (h : w.ownsRow B e k v n xs) : ∃ A c, v = .slice A n c := by
  rcases h.2 with ⟨rfl, rfl⟩ | ⟨g, cap, cur, rfl, _⟩
  · exact ⟨_, _, rfl⟩
  · exact ⟨_, _, rfl⟩
theorem own_below {w W : World} {B : Nat} {e : TypeId} {k : Nat} {v : Value} {n : Nat} {xs : List Value} (h : w.ownsRow B e k v n xs) (hb : Below w.heap.size w W) : W.ownsRow B e k v n xs := by
  refine ⟨h.1, ?_⟩
  rcases h.2 with h0 | ⟨g, cap, cur, rfl, hg, hh, h1, h2, h3, h4⟩
  · exact .inl h0
  · exact .inr ⟨g, cap, cur, rfl, hg, (hb.block g (Array.getElem?_eq_some_iff.1 hh).1).trans hh, h1, h2, h3, h4⟩

/-- What Starts leaves. -/
def StartsPost (s : ByteArray) (w : World) (e : Ending) (w' : World) : Prop :=
  ∃ A c, e = .returned (.slice A (starts s).length c) ∧ w'.ownsRow w.heap.size 3 1 (.slice A (starts s).length c) (starts s).length (nats (starts s)) ∧ Below w.heap.size w w'

theorem starts_end {s : ByteArray} {w wr : World} {v : Value} {L : List Nat} {f pos : Nat} (hp : ¬ pos < s.size) (h : L ++ startsFrom s f pos = starts s) (hown : wr.ownsRow w.heap.size 3 1 v L.length (nats L)) (hB : Below w.heap.size w wr) : StartsPost s w (.returned v) wr := by
  rw [startsFrom_end hp, List.append_nil] at h
  subst h
  obtain ⟨A, c, rfl⟩ := own_form hown
  exact ⟨A, c, rfl, hown, hB⟩

/-- limnerref01.Next at a place that lies in the text. -/
theorem rnext_u (s : ByteArray) (i : Nat) (w : World) (hs : s.size ≤ 1048576) (hi : i < s.size) :
    Calls Tryd.prog 43 #[.string s, .int .i64 i] w fun e w' => e = .returned (.tuple #[.int .i32 (Utf8.decode s i).1, .int .i64 (Utf8.decode s i).2, .bool (dec3 s i).2.2]) ∧ Below w.heap.size w w' :=
  (rnext_any s i w hs hi).mono fun e w' ⟨he, hw⟩ => ⟨by rw [he, nxt_dec s i hi]; rfl, hw⟩
theorem starts_rel {w wr w1 w2 : World} {v v' : Value} {L : List Nat} {pos : Nat} {o : Obj} {t : TypeId} (hB : Below w.heap.size w wr) (hbs : w.heap.size ≤ wr.heap.size) (hown : wr.ownsRow w.heap.size t 1 v L.length (nats L))
    (hown1 : w1.ownsRow w.heap.size t 1 v' (L.length + 1) (nats L ++ [.int .i64 (pos : Int)])) (hgrow : (wr.alloc o).grownBy w1 v.ownBlock) (hb2 : Below w1.heap.size w1 w2) :
    w2.ownsRow w.heap.size t 1 v' (L ++ [pos]).length (nats (L ++ [pos])) ∧ Below w.heap.size w w2 := by
  have h1 : Below w.heap.size w w1 := (hB.alloc hbs o).grown hgrow (by simp; omega) (fun k e => (hown.lt k e).1)
  exact ⟨by rw [nats_snoc, List.length_append]; exact own_below hown1 hb2, h1.trans (hb2.mono h1.size)⟩

set_option maxHeartbeats 1000000 in
theorem starts_any (s : ByteArray) (w : World) (hs : s.size ≤ 1048576) : Calls Tryd.prog 42 #[.string s] w (StartsPost s w) := by
  obtain ⟨i0, hi, hz0, hz1, hz2⟩ := info_parts info_int
  go_enter Tryd.func42, Tryd.ntmps42
  go_wp2
  go_loopw [3, 4] (fun v p wr => ∃ (pos f : Nat) (L : List Nat), p = .int .i64 pos ∧ wr.ownsRow w.heap.size 3 1 v L.length (nats L) ∧ Hid (L ++ startsFrom s f pos = starts s) ∧ L.length ≤ pos ∧ s.size ≤ pos + f ∧ pos ≤ s.size ∧ Below w.heap.size w wr) (fun _ p _ => s.size - (intOf p).toNat)
  case atStart => exact ⟨0, s.size, [], rfl, World.ownsRow_nil _ _ _ _, rfl, by simp, by omega, by omega, Below.refl _ _⟩
  case round =>
    obtain ⟨pos, f, L, rfl, hown, HL, hLp, hf, hpos, hB⟩ := hrel
    have hbs := hB.size
    by_cases hp : pos < s.size
    · have hd := dec_in s pos hp
      have HS := hide (starts_step hp HL.out hf)
      have HB := hide hB
      clear hB HL
      go_wp2_with (first
        | (at_builtin; refine wpList_append_own _ rfl _ _ 64 rfl w.heap.size 3 i0 (.int .i64 0) 1 8 Tryd.underlying64 hi hz0 hz1 hz2 rfl (by decide) _ _ _ rfl (hown.alloc _) ⟨wr.heap.size, 0, none⟩ 1 1 [.int .i64 pos] rfl rfl (cell_one_new _ _ _) (by simp [Value.oneCell']) (by unfold maxLen; omega) (by omega) (by simp; omega) ?_; intro v' w1 hown1 hgrow1 _)
        | (go_at_call 43; refine (rnext_u _ _ _ hs hp).mono ?_; rintro e w2 ⟨rfl, hb2⟩))
      have R := hide (starts_rel HB.out hbs hown hown1 hgrow1 hb2)
      clear hown hown1 hgrow1 hb2
      go_roundw
      case rel => exact ⟨pos + (Utf8.decode s pos).2, f - 1, L ++ [pos], by go_num, R.out.1, HS.out, by simp; omega, by omega, by omega, R.out.2⟩
      case measure => simp [intOf]; omega
    · go_wp2
      go_ret
      exact starts_end hp HL.out hown hB

/-- The slice at A reads as the places L. -/
def NatsAt (A : Option Addr) (L : List Nat) (w : World) : Prop := ∀ k, k < L.length → ∃ g, A = some ⟨g, 0, none⟩ ∧ w.cell? ⟨g, k, none⟩ = some (.int .i64 ((L[k]?.getD 0 : Nat) : Int))
theorem NatsAt.below {A : Option Addr} {L : List Nat} {w W : World} (h : NatsAt A L w) (hb : Below w.heap.size w W) : NatsAt A L W := fun k hk => by
  obtain ⟨g, e, hc⟩ := h k hk
  exact ⟨g, e, (hb.cell (p := ⟨g, k, none⟩) (World.block_lt_of_cell? _ _ hc)).trans hc⟩
theorem NatsAt.of_own {A : Option Addr} {c : Nat} {L : List Nat} {w : World} {B : Nat} {t : TypeId} (h : w.ownsRow B t 1 (.slice A L.length c) L.length (nats L)) : NatsAt A L w := fun k hk => by
  rcases h.2 with ⟨_, h0⟩ | ⟨g, cap, cur, e, _⟩
  · omega
  · injection e with e1 e2 e3
    subst e1
    refine ⟨g, rfl, ?_⟩
    rw [h.cellAt k (by omega)]
    simp [nats, hk]
end Go.Proofs.YtiilgeinkocanaaDoor
