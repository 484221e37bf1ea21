/- The walk of limnerlaw33.SuggestTell. -/
import Derived.Test.YtkjfgljalalffaaTold
import Derived.Deep.RegionHeld3
namespace Go.Proofs.Ytkjfgljalalffaa
open Go.RowKit

theorem keep_call {B : Nat} {s0 s1 : ByteArray} {w W W1 : World} (h : W.cell? ⟨B, 0, none⟩ = some (.string s0) ∧ W.cell? ⟨B, 1, none⟩ = some (.string s1) ∧ Below (B + 1) w W) (hw : B + 1 ≤ W.heap.size) (hb : Below W.heap.size W W1) :
    W1.cell? ⟨B, 0, none⟩ = some (.string s0) ∧ W1.cell? ⟨B, 1, none⟩ = some (.string s1) ∧ Below (B + 1) w W1 := by
  have hb' := hb.mono hw
  exact ⟨(hb'.cell (p := ⟨B, 0, none⟩) (by show B < B + 1; omega)).trans h.1, (hb'.cell (p := ⟨B, 1, none⟩) (by show B < B + 1; omega)).trans h.2.1, h.2.2.trans hb'⟩

/-- What the law's walk keeps: the box of s, and what lay below. -/
def KC (B : Nat) (s0 s1 : ByteArray) (w W : World) : Prop :=
  (W.cell? ⟨B, 0, none⟩ = some (.string s0) ∧ W.cell? ⟨B, 1, none⟩ = some (.string s1) ∧ Below (B + 1) w W) ∧ B + 1 ≤ W.heap.size
theorem kc {B : Nat} {s0 s1 : ByteArray} {w W W1 : World} (h : KC B s0 s1 w W) (hb : Below W.heap.size W W1) : KC B s0 s1 w W1 :=
  ⟨keep_call h.1 h.2 hb, Nat.le_trans h.2 hb.size⟩
set_option maxHeartbeats 1000000 in
theorem tell_main (sv : Value) (zs : List ByteArray) (s0 s1 : ByteArray) (w : World) (hlen : zs.length ≤ 17592186044415) (hI : Strs w.heap.size w sv zs) (hg : great zs 30 = false) (h0 : s0.size ≤ 200) (h1 : s1.size ≤ 200) :
    Calls Try.prog 3 #[sv, .agg #[.string s0, .string s1]] w fun e w' => e = .returned (.bool true) ∧ Below w.heap.size w w' := by
  have HI := hide hI
  have HG := hide hg
  clear hI hg
  go_enter Try.func3, Try.ntmps3
  go_wp2_with (go_at_call 6; refine (great_any w.heap.size sv zs 30 _ (by omega) hlen (HI.out.below ((Below.refl _ _).alloc (Nat.le_refl _) _))).mono ?_; rw [HG.out]; rintro e w' ⟨rfl, rfl⟩)
  go_loopw [5] (fun i wr => ∃ k : Nat, k ≤ s0.size + 1 ∧ i = .int .i64 k ∧ wr.cell? ⟨w.heap.size, 0, none⟩ = some (.string s0) ∧ wr.cell? ⟨w.heap.size, 1, none⟩ = some (.string s1) ∧ Below (w.heap.size + 1) (w.alloc (.cells #[.string s0, .string s1] 23)) wr) (fun i _ => s0.size + 1 - (intOf i).toNat)
  case atStart => exact ⟨0, by omega, rfl, by simp, by simp, Below.refl _ _⟩
  case round =>
    obtain ⟨k, hk, rfl, hc0, hc1, hB⟩ := hrel
    have hsz := hB.size
    simp only [World.size_alloc] at hsz
    by_cases hlt : k ≤ s0.size
    · have e1 : (0 : Int) ≤ (k : Int) := by omega
      have e2 : (k : Int) ≤ (s0.size : Int) := by omega
      have HB : Below w.heap.size w wr.drew := (((Below.refl _ _).alloc (Nat.le_refl _) _).trans (hB.mono (by omega))).drew
      have HS := hide (HI.out.below HB)
      have HBH := hide HB
      clear HB
      have hsub : (s0.extract 0 k).size ≤ 1048576 := by rw [ByteArray.size_extract]; omega
      have HSUB := hide hsub
      clear hsub
      go_wp2_with fail
      go_region_held3 (fun w' => w'.cell? ⟨w.heap.size, 0, none⟩ = some (.string s0) ∧ w'.cell? ⟨w.heap.size, 1, none⟩ = some (.string s1) ∧ Below (w.heap.size + 1) (w.alloc (.cells #[.string s0, .string s1] 23)) w')
        (first | exact ⟨hc0, hc1, hB.drew⟩ | exact keep_call (W := wr.drew) ⟨hc0, hc1, hB.drew⟩ hsz hb1)
        (first
          | (go_at_call 8; refine (of_any sv zs (s0.extract 0 k) _ hlen (HS.out.mono HBH.out.size)).mono ?_; rintro e w1 ⟨rfl, hb1⟩)
          | (go_at_call 9; refine (rof_any w.heap.size sv zs (s0.extract 0 k) _ hlen HSUB.out (by first | exact HS.out | exact HS.out.below (hb1.mono HBH.out.size))).mono ?_; rintro e w1 ⟨rfl, rfl⟩))
      have hps : (ofS zs (s0.extract 0 k)).size ≤ 1048576 := Nat.le_trans (ofS_size (great_all HG.out).2) (by omega)
      have HPS := hide hps
      clear hps
      go_wp2_with (first
          | (go_at_call 10; refine (part_any _ _ HPS.out).mono ?_; rintro e w2 ⟨rfl, hb2⟩)
          | (go_at_call 11; refine (rpart_any _ _ HPS.out).mono ?_; rintro e w3 ⟨rfl, hb3⟩))
      have k1 : KC w.heap.size s0 s1 (w.alloc (.cells #[.string s0, .string s1] 23)) w3 := kc (kc ⟨by assumption, Nat.le_trans hsz hb1.size⟩ hb2) hb3
      go_roundw
      case rel => exact ⟨k + 1, by omega, by go_num, k1.1.1, k1.1.2.1, k1.1.2.2⟩
      case measure => simp [intOf]; omega
    · have k0 : KC w.heap.size s0 s1 (w.alloc (.cells #[.string s0, .string s1] 23)) wr.drew := ⟨⟨hc0, hc1, hB.drew⟩, hsz⟩
      have K0 := hide k0
      clear k0
      go_wp2_with fail
      go_region_held3 (fun w' => w'.cell? ⟨w.heap.size, 0, none⟩ = some (.string s0) ∧ w'.cell? ⟨w.heap.size, 1, none⟩ = some (.string s1) ∧ Below (w.heap.size + 1) (w.alloc (.cells #[.string s0, .string s1] 23)) w')
        (first | exact K0.out.1 | exact (kc K0.out hb2).1 | exact (kc K0.out hb3).1 | exact (kc (kc K0.out hb2) hb3).1 | exact (kc (kc K0.out hb3) hb2).1 | exact (kc (kc (kc K0.out hb2) hb3) hb4).1 | exact (kc (kc (kc K0.out hb3) hb2) hb4).1)
        (first
          | (go_at_call 10; refine (part_any _ _ (by omega)).mono ?_; rintro e w2 ⟨rfl, hb2⟩)
          | (go_at_call 11; refine (rpart_any _ _ (by omega)).mono ?_; rintro e w3 ⟨rfl, hb3⟩)
          | (go_at_call 7; refine (told_any _).mono ?_; rintro e w4 ⟨rfl, hb4⟩))
      have hS : w4.cell? ⟨w.heap.size, 0, none⟩ = some (.string s0) ∧ w4.cell? ⟨w.heap.size, 1, none⟩ = some (.string s1) ∧ Below (w.heap.size + 1) (w.alloc (.cells #[.string s0, .string s1] 23)) w4 := by assumption
      have HS := hide hS
      clear hS
      go_wp2
      go_ret
      exact ⟨rfl, ((Below.refl _ _).alloc (Nat.le_refl _) _).trans (HS.out.2.2.mono (by omega))⟩

set_option maxHeartbeats 1000000 in
/-- **limnerlaw33.SuggestTell answers true.** -/
theorem tell_any (sv : Value) (zs : List ByteArray) (s0 s1 : ByteArray) (w : World) (hlen : zs.length ≤ 17592186044415) (hz0 : s0.size ≤ 9223372036854775807) (hz1 : s1.size ≤ 9223372036854775807) (hI : Strs w.heap.size w sv zs) :
    Calls Try.prog 3 #[sv, .agg #[.string s0, .string s1]] w fun e w' => e = .returned (.bool true) ∧ Below w.heap.size w w' := by
  cases hg : great zs 30
  · by_cases h0 : s0.size ≤ 200
    · by_cases h1 : s1.size ≤ 200
      · exact tell_main sv zs s0 s1 w hlen hI hg h0 h1
      · have HI := hide hI
        have HG := hide hg
        clear hI hg
        go_enter Try.func3, Try.ntmps3
        go_wp2_with (first
          | (go_at_call 6; refine (great_any w.heap.size sv zs 30 _ (by omega) hlen (HI.out.below ((Below.refl _ _).alloc (Nat.le_refl _) _))).mono ?_; rw [HG.out]; rintro e w' ⟨rfl, rfl⟩)
          | (go_at_call 7; refine (told_any _).mono ?_; rintro e w4 ⟨rfl, hb4⟩))
        go_ret
        exact ⟨rfl, ((Below.refl _ _).alloc (Nat.le_refl _) _).trans (hb4.mono (by simp))⟩
    · have HI := hide hI
      have HG := hide hg
      clear hI hg
      go_enter Try.func3, Try.ntmps3
      go_wp2_with (first
        | (go_at_call 6; refine (great_any w.heap.size sv zs 30 _ (by omega) hlen (HI.out.below ((Below.refl _ _).alloc (Nat.le_refl _) _))).mono ?_; rw [HG.out]; rintro e w' ⟨rfl, rfl⟩)
        | (go_at_call 7; refine (told_any _).mono ?_; rintro e w4 ⟨rfl, hb4⟩))
      go_ret
      exact ⟨rfl, ((Below.refl _ _).alloc (Nat.le_refl _) _).trans (hb4.mono (by simp))⟩
  · have HI := hide hI
    have HG := hide hg
    clear hI hg
    go_enter Try.func3, Try.ntmps3
    go_wp2_with (first
      | (go_at_call 6; refine (great_any w.heap.size sv zs 30 _ (by omega) hlen (HI.out.below ((Below.refl _ _).alloc (Nat.le_refl _) _))).mono ?_; rw [HG.out]; rintro e w' ⟨rfl, rfl⟩)
      | (go_at_call 7; refine (told_any _).mono ?_; rintro e w4 ⟨rfl, hb4⟩))
    go_ret
    exact ⟨rfl, ((Below.refl _ _).alloc (Nat.le_refl _) _).trans (hb4.mono (by simp))⟩
end Go.Proofs.Ytkjfgljalalffaa
