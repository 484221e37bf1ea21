/- Contract of limnerref18.classes; limnerref04's Place, Start, End, Runes by runes' numbers. -/
import Derived.Test.YtkmcfcpockpadaaDoorMfix
namespace Go.Proofs.YtkmcfcpockpadaaDoor
open Go.RowKit

/-- The slice at A holds all classes. -/
def ClsAt (A : Option Addr) (s : ByteArray) (w : World) : Prop := ∀ k, k < nR s → ∃ g, A = some ⟨g, 0, none⟩ ∧ w.cell? ⟨g, k, none⟩ = some (.int .i64 (cl s k))
theorem ClsAt.below {A : Option Addr} {s : ByteArray} {w W : World} (h : ClsAt A s w) (hb : Below w.heap.size w W) : ClsAt A s W := fun k hk => by
  obtain ⟨g, e, hc⟩ := h k hk
  exact ⟨g, e, (hb.cell (p := ⟨g, k, none⟩) (World.block_lt_of_cell? _ _ hc)).trans hc⟩
def clL (s : ByteArray) (j : Nat) : List Value := (List.range j).map fun k => Value.int .i64 (cl s k)
theorem clL_len (s : ByteArray) (j : Nat) : (clL s j).length = j := by simp [clL]
theorem clL_succ (s : ByteArray) (j : Nat) : clL s (j + 1) = clL s j ++ [.int .i64 (cl s j)] := by unfold clL; rw [List.range_succ, List.map_append]; rfl
theorem cls_rel {w wr w1 w2 w3 : World} {v v' : Value} {s : ByteArray} {j : Nat} {o : Obj} {t : TypeId} (hB : Below w.heap.size w wr) (hbs : w.heap.size ≤ wr.heap.size) (hown : wr.ownsRow w.heap.size t 1 v j (clL s j)) (hb2 : Below wr.heap.size wr w2)
    (hown1 : w1.ownsRow w.heap.size t 1 v' (j + 1) (clL s j ++ [.int .i64 (cl s j)])) (hgrow : (w2.alloc o).grownBy w1 v.ownBlock) (hw3 : w3 = w1) :
    w3.ownsRow w.heap.size t 1 v' (j + 1) (clL s (j + 1)) ∧ Below w.heap.size w w3 := by
  subst hw3
  have h2 := hB.trans (hb2.mono hbs)
  have h1 : Below w.heap.size w w3 := (h2.alloc h2.size o).grown hgrow (by simp; have := h2.size; omega) (fun k e => (hown.lt k e).1)
  exact ⟨by rw [clL_succ]; exact hown1, h1⟩
set_option maxHeartbeats 1000000 in
theorem classes_any (s : ByteArray) (w : World) (hs : s.size ≤ 1048576) : Calls Tryd.prog 16 #[.string s] w fun e w' => ∃ A c, e = .returned (.slice A (nR s) c) ∧ ClsAt A s w' ∧ Below w.heap.size w w' := by
  obtain ⟨i0, hi, hz0, hz1, hz2⟩ := info_parts info_int
  have hlen := nR_le s
  go_enter Tryd.func16, Tryd.ntmps16
  go_wp2_with fail
  refine (starts_any s _ hs).mono ?_; rintro e w0 ⟨A, c, rfl, hown0, hb0⟩
  have HO := hide (NatsAt.of_own hown0)
  have HB0 := hide hb0
  have HNR := hide (show (starts s).length = nR s from rfl)
  rw [show (starts s).length = nR s from rfl]
  clear hown0 hb0
  go_wp2_with fail
  go_loopg [4, 5] (nR s) (fun gk v i wr => ∃ j : Nat, j ≤ nR s ∧ i = .int .i64 j ∧ wr.ownsRow w0.heap.size 3 1 v j (clL s j) ∧ Hid (gk = nR s - j) ∧ Hid (Below w0.heap.size w0 wr))
  case atStart => exact ⟨0, Nat.zero_le _, rfl, World.ownsRow_nil _ _ _ _, hide rfl, hide (Below.refl _ _)⟩
  case round =>
    obtain ⟨j, hj, rfl, hown, HG, HB⟩ := hrel
    by_cases hlt : j < nR s
    · obtain ⟨g, rfl, hc⟩ := (HO.out.below HB.out) j (by rw [HNR.out]; exact hlt)
      rw [plc_of_getD hlt] at hc
      have hpl := plc_lt hlt
      have HCL := hide (show cl s j = cls ((Utf8.decode s (plc s j)).1 : Int) by unfold cl; rw [if_pos hlt])
      obtain ⟨p, hp⟩ : ∃ p, plc s j = p := ⟨_, rfl⟩
      rw [hp] at hc hpl HCL
      have hbs := HB.out.size
      have HLN := hide (clL_len s j)
      have hj2 : j + 1 ≤ 1048576 := by omega
      clear hp
      go_wp2_with fail
      refine (rnext_u s p _ hs hpl).mono ?_; rintro e w2 ⟨rfl, hb2⟩
      have hbs2 := hb2.size
      have hown2 := own_below hown hb2
      have HB2 := hide hb2
      clear hb2 hc
      go_wp2_with (first
        | (go_at_call 12; refine (rclass_any _ _).mono ?_; rw [← HCL.out]; rintro e w' ⟨rfl, rfl⟩)
        | (at_builtin; refine wpList_append_own _ rfl _ _ 33 rfl w0.heap.size 3 i0 (.int .i64 0) 1 8 Tryd.underlying33 hi hz0 hz1 hz2 rfl (by decide) _ _ _ rfl (hown2.alloc _) ⟨w2.heap.size, 0, none⟩ 1 1 [.int .i64 (cl s j)] rfl rfl (cell_one_new _ _ _) (by simp [Value.oneCell']) (by unfold maxLen; omega) (by omega) (by simp; omega) ?_; intro v' w1 hown1 hgrow1 _))
      have R := hide (cls_rel HB.out hbs hown HB2.out hown1 hgrow1 rfl)
      clear hown hown1 hgrow1 hown2
      go_roundg (nR s - (j + 1))
      case measure => have := HG.out; omega
      case rel => exact ⟨j + 1, by omega, by go_num, R.out.1, hide rfl, hide R.out.2⟩
    · obtain rfl : j = nR s := by omega
      obtain ⟨A2, c2, rfl⟩ := own_form hown
      go_wp2
      go_ret
      refine ⟨A2, c2, rfl, fun k hk => ?_, HB0.out.trans (HB.out.mono HB0.out.size)⟩
      rcases hown.2 with ⟨_, h0⟩ | ⟨g, cap, cur, e, _⟩
      · omega
      · injection e with e1 e2 e3
        subst e1
        refine ⟨g, rfl, ?_⟩
        rw [hown.cellAt k (by omega)]
        simp [clL, hk]

theorem rplaceK (s : ByteArray) (k : Nat) (x : Int) (w : World) (hs : s.size ≤ 1048576) (hk : k ≤ nR s) (hx : x = (k : Int)) : Calls Tryd.prog 19 #[.string s, .int .i64 x] w fun e w' => e = .returned (.int .i64 (plc s k : Nat)) ∧ Below w.heap.size w w' := by
  subst hx
  have h := rplace_any s k w hs
  rw [plcI_of hk] at h
  exact h
theorem rstartK (s : ByteArray) (k : Nat) (w : World) (hs : s.size ≤ 1048576) : Calls Tryd.prog 37 #[.string s, .int .i64 (plc s k : Nat)] w fun e w' => e = .returned (.int .i64 (plc s (stK s k) : Nat)) ∧ w = w' := by
  have h := rstart_any s (plc s k : Nat) w hs
  rw [nearP_of s _ (plc_le s k), ← plc_stK] at h
  exact h
theorem rendK (s : ByteArray) (k : Nat) (w : World) (hs : s.size ≤ 1048576) : Calls Tryd.prog 38 #[.string s, .int .i64 (plc s k : Nat)] w fun e w' => e = .returned (.int .i64 (plc s (enK s k) : Nat)) ∧ w = w' := by
  have h := rend_any s (plc s k : Nat) w hs
  rw [nearP_of s _ (plc_le s k), ← plc_enK] at h
  exact h
theorem rrunesK (s : ByteArray) (k : Nat) (w : World) (hs : s.size ≤ 1048576) (hk : k ≤ nR s) : Calls Tryd.prog 17 #[.string s, .int .i64 (plc s k : Nat)] w fun e w' => e = .returned (.int .i64 k) ∧ Below w.heap.size w w' := by
  have h := rrunes_any s (plc s k : Nat) w hs
  rw [rnN_plc hk] at h
  exact h
end Go.Proofs.YtkmcfcpockpadaaDoor
