/- Contract of limnerref18.once, case by case (printed by genronce.py). -/
import Derived.Test.YtkmcfcpockpadaaDoorMcls
import Derived.Deep.DeepCutAuto
import Derived.Deep.CutBlock
namespace Go.Proofs.YtkmcfcpockpadaaDoor
open Go.RowKit

theorem below_drewM {B : Nat} {a w : World} (h : Below B a w) (n : Nat) : Below B a (w.drewN n) := ⟨h.os, h.tape, h.output, h.size, h.block⟩
def ROPost (s : ByteArray) (k : Nat) (which : Int) (w : World) (e : Ending) (w' : World) : Prop := e = .returned (.int .i64 (onceK s which k : Nat)) ∧ Below w.heap.size w w'
theorem ro_end {s : ByteArray} {k : Nat} {which : Int} {w w' : World} {x : Int} (hx : x = (onceK s which k : Nat)) (hb : Below w.heap.size w w') : ROPost s k which w (.returned (.int .i64 x)) w' := ⟨by rw [hx], hb⟩

set_option maxHeartbeats 2000000 in
set_option maxRecDepth 100000 in
theorem ronce_0 (s : ByteArray) (k : Nat) (A : Option Addr) (c : Nat) (w : World) (hs : s.size ≤ 1048576) (hk : k ≤ nR s) (hcl : ClsAt A s w) : Calls Tryd.prog 18 #[.string s, .slice A (nR s) c, .int .i64 k, .int .i64 0] w (ROPost s k 0 w) := by
  have HT := hide (Below.refl w.heap.size w)
  have hst := stK_n s k
  have hen := enK_n s k
  have hsk := stK_le hk
  have hke := enK_ge hk
  have hln := nR_le s
  have HCL := hide hcl
  clear hcl
  go_enter Tryd.func18, Tryd.ntmps18
  go_wp2_with fail
  refine (rplaceK s k _ _ hs hk rfl).mono ?_; rintro e w1 ⟨rfl, b1⟩
  replace HT := hide (HT.out.trans (b1.mono HT.out.size))
  clear b1
  go_wp2_with fail
  refine (rstartK s k _ hs).mono ?_; rintro e w' ⟨rfl, rfl⟩
  go_wp2_with fail
  refine (rrunesK s (stK s k) _ hs hst).mono ?_; rintro e w2 ⟨rfl, b1⟩
  replace HT := hide (HT.out.trans (b1.mono HT.out.size))
  clear b1
  go_wp2_with fail
  refine (rendK s k _ hs).mono ?_; rintro e w' ⟨rfl, rfl⟩
  go_wp2_with fail
  refine (rrunesK s (enK s k) _ hs hen).mono ?_; rintro e w3 ⟨rfl, b1⟩
  replace HT := hide (HT.out.trans (b1.mono HT.out.size))
  replace HCL := hide (HCL.out.below HT.out)
  clear b1
  obtain ⟨st, hst9⟩ : ∃ x, stK s k = x := ⟨_, rfl⟩
  obtain ⟨en, hen9⟩ : ∃ x, enK s k = x := ⟨_, rfl⟩
  have HST := hide hst9
  have HEN := hide hen9
  rw [hst9] at hst hsk ⊢
  rw [hen9] at hen hke ⊢
  clear hst9 hen9
  go_wp2
  go_ret
  exact ro_end (by show max ((k : Int) - 1) 0 = ((k - 1 : Nat) : Int); omega) HT.out

set_option maxHeartbeats 2000000 in
set_option maxRecDepth 100000 in
theorem ronce_1 (s : ByteArray) (k : Nat) (A : Option Addr) (c : Nat) (w : World) (hs : s.size ≤ 1048576) (hk : k ≤ nR s) (hcl : ClsAt A s w) : Calls Tryd.prog 18 #[.string s, .slice A (nR s) c, .int .i64 k, .int .i64 1] w (ROPost s k 1 w) := by
  have HT := hide (Below.refl w.heap.size w)
  have hst := stK_n s k
  have hen := enK_n s k
  have hsk := stK_le hk
  have hke := enK_ge hk
  have hln := nR_le s
  have HCL := hide hcl
  clear hcl
  go_enter Tryd.func18, Tryd.ntmps18
  go_wp2_with fail
  refine (rplaceK s k _ _ hs hk rfl).mono ?_; rintro e w1 ⟨rfl, b1⟩
  replace HT := hide (HT.out.trans (b1.mono HT.out.size))
  clear b1
  go_wp2_with fail
  refine (rstartK s k _ hs).mono ?_; rintro e w' ⟨rfl, rfl⟩
  go_wp2_with fail
  refine (rrunesK s (stK s k) _ hs hst).mono ?_; rintro e w2 ⟨rfl, b1⟩
  replace HT := hide (HT.out.trans (b1.mono HT.out.size))
  clear b1
  go_wp2_with fail
  refine (rendK s k _ hs).mono ?_; rintro e w' ⟨rfl, rfl⟩
  go_wp2_with fail
  refine (rrunesK s (enK s k) _ hs hen).mono ?_; rintro e w3 ⟨rfl, b1⟩
  replace HT := hide (HT.out.trans (b1.mono HT.out.size))
  replace HCL := hide (HCL.out.below HT.out)
  clear b1
  obtain ⟨st, hst9⟩ : ∃ x, stK s k = x := ⟨_, rfl⟩
  obtain ⟨en, hen9⟩ : ∃ x, enK s k = x := ⟨_, rfl⟩
  have HST := hide hst9
  have HEN := hide hen9
  rw [hst9] at hst hsk ⊢
  rw [hen9] at hen hke ⊢
  clear hst9 hen9
  go_wp2
  go_ret
  exact ro_end (by show min ((k : Int) + 1) (nR s : Nat) = ((min (k + 1) (nR s) : Nat) : Int); omega) HT.out

set_option maxHeartbeats 2000000 in
set_option maxRecDepth 100000 in
theorem ronce_2 (s : ByteArray) (k : Nat) (A : Option Addr) (c : Nat) (w : World) (hs : s.size ≤ 1048576) (hk : k ≤ nR s) (hcl : ClsAt A s w) : Calls Tryd.prog 18 #[.string s, .slice A (nR s) c, .int .i64 k, .int .i64 2] w (ROPost s k 2 w) := by
  have HT := hide (Below.refl w.heap.size w)
  have hst := stK_n s k
  have hen := enK_n s k
  have hsk := stK_le hk
  have hke := enK_ge hk
  have hln := nR_le s
  have HCL := hide hcl
  clear hcl
  go_enter Tryd.func18, Tryd.ntmps18
  go_wp2_with fail
  refine (rplaceK s k _ _ hs hk rfl).mono ?_; rintro e w1 ⟨rfl, b1⟩
  replace HT := hide (HT.out.trans (b1.mono HT.out.size))
  clear b1
  go_wp2_with fail
  refine (rstartK s k _ hs).mono ?_; rintro e w' ⟨rfl, rfl⟩
  go_wp2_with fail
  refine (rrunesK s (stK s k) _ hs hst).mono ?_; rintro e w2 ⟨rfl, b1⟩
  replace HT := hide (HT.out.trans (b1.mono HT.out.size))
  clear b1
  go_wp2_with fail
  refine (rendK s k _ hs).mono ?_; rintro e w' ⟨rfl, rfl⟩
  go_wp2_with fail
  refine (rrunesK s (enK s k) _ hs hen).mono ?_; rintro e w3 ⟨rfl, b1⟩
  replace HT := hide (HT.out.trans (b1.mono HT.out.size))
  replace HCL := hide (HCL.out.below HT.out)
  clear b1
  obtain ⟨st, hst9⟩ : ∃ x, stK s k = x := ⟨_, rfl⟩
  obtain ⟨en, hen9⟩ : ∃ x, enK s k = x := ⟨_, rfl⟩
  have HST := hide hst9
  have HEN := hide hen9
  rw [hst9] at hst hsk ⊢
  rw [hen9] at hen hke ⊢
  clear hst9 hen9
  go_wp2
  go_ret
  exact ro_end (by show (st : Int) = (stK s k : Nat); rw [HST.out]) HT.out

set_option maxHeartbeats 2000000 in
set_option maxRecDepth 100000 in
theorem ronce_3 (s : ByteArray) (k : Nat) (A : Option Addr) (c : Nat) (w : World) (hs : s.size ≤ 1048576) (hk : k ≤ nR s) (hcl : ClsAt A s w) : Calls Tryd.prog 18 #[.string s, .slice A (nR s) c, .int .i64 k, .int .i64 3] w (ROPost s k 3 w) := by
  have HT := hide (Below.refl w.heap.size w)
  have hst := stK_n s k
  have hen := enK_n s k
  have hsk := stK_le hk
  have hke := enK_ge hk
  have hln := nR_le s
  have HCL := hide hcl
  clear hcl
  go_enter Tryd.func18, Tryd.ntmps18
  go_wp2_with fail
  refine (rplaceK s k _ _ hs hk rfl).mono ?_; rintro e w1 ⟨rfl, b1⟩
  replace HT := hide (HT.out.trans (b1.mono HT.out.size))
  clear b1
  go_wp2_with fail
  refine (rstartK s k _ hs).mono ?_; rintro e w' ⟨rfl, rfl⟩
  go_wp2_with fail
  refine (rrunesK s (stK s k) _ hs hst).mono ?_; rintro e w2 ⟨rfl, b1⟩
  replace HT := hide (HT.out.trans (b1.mono HT.out.size))
  clear b1
  go_wp2_with fail
  refine (rendK s k _ hs).mono ?_; rintro e w' ⟨rfl, rfl⟩
  go_wp2_with fail
  refine (rrunesK s (enK s k) _ hs hen).mono ?_; rintro e w3 ⟨rfl, b1⟩
  replace HT := hide (HT.out.trans (b1.mono HT.out.size))
  replace HCL := hide (HCL.out.below HT.out)
  clear b1
  obtain ⟨st, hst9⟩ : ∃ x, stK s k = x := ⟨_, rfl⟩
  obtain ⟨en, hen9⟩ : ∃ x, enK s k = x := ⟨_, rfl⟩
  have HST := hide hst9
  have HEN := hide hen9
  rw [hst9] at hst hsk ⊢
  rw [hen9] at hen hke ⊢
  clear hst9 hen9
  go_wp2
  go_ret
  exact ro_end (by show (en : Int) = (enK s k : Nat); rw [HEN.out]) HT.out

set_option maxHeartbeats 2000000 in
set_option maxRecDepth 100000 in
theorem ronce_12 (s : ByteArray) (k : Nat) (A : Option Addr) (c : Nat) (w : World) (hs : s.size ≤ 1048576) (hk : k ≤ nR s) (hcl : ClsAt A s w) : Calls Tryd.prog 18 #[.string s, .slice A (nR s) c, .int .i64 k, .int .i64 12] w (ROPost s k 12 w) := by
  have HT := hide (Below.refl w.heap.size w)
  have hst := stK_n s k
  have hen := enK_n s k
  have hsk := stK_le hk
  have hke := enK_ge hk
  have hln := nR_le s
  have HCL := hide hcl
  clear hcl
  go_enter Tryd.func18, Tryd.ntmps18
  go_wp2_with fail
  refine (rplaceK s k _ _ hs hk rfl).mono ?_; rintro e w1 ⟨rfl, b1⟩
  replace HT := hide (HT.out.trans (b1.mono HT.out.size))
  clear b1
  go_wp2_with fail
  refine (rstartK s k _ hs).mono ?_; rintro e w' ⟨rfl, rfl⟩
  go_wp2_with fail
  refine (rrunesK s (stK s k) _ hs hst).mono ?_; rintro e w2 ⟨rfl, b1⟩
  replace HT := hide (HT.out.trans (b1.mono HT.out.size))
  clear b1
  go_wp2_with fail
  refine (rendK s k _ hs).mono ?_; rintro e w' ⟨rfl, rfl⟩
  go_wp2_with fail
  refine (rrunesK s (enK s k) _ hs hen).mono ?_; rintro e w3 ⟨rfl, b1⟩
  replace HT := hide (HT.out.trans (b1.mono HT.out.size))
  replace HCL := hide (HCL.out.below HT.out)
  clear b1
  obtain ⟨st, hst9⟩ : ∃ x, stK s k = x := ⟨_, rfl⟩
  obtain ⟨en, hen9⟩ : ∃ x, enK s k = x := ⟨_, rfl⟩
  have HST := hide hst9
  have HEN := hide hen9
  rw [hst9] at hst hsk ⊢
  rw [hen9] at hen hke ⊢
  clear hst9 hen9
  go_wp2
  go_ret
  exact ro_end rfl HT.out

set_option maxHeartbeats 2000000 in
set_option maxRecDepth 100000 in
theorem ronce_13 (s : ByteArray) (k : Nat) (A : Option Addr) (c : Nat) (w : World) (hs : s.size ≤ 1048576) (hk : k ≤ nR s) (hcl : ClsAt A s w) : Calls Tryd.prog 18 #[.string s, .slice A (nR s) c, .int .i64 k, .int .i64 13] w (ROPost s k 13 w) := by
  have HT := hide (Below.refl w.heap.size w)
  have hst := stK_n s k
  have hen := enK_n s k
  have hsk := stK_le hk
  have hke := enK_ge hk
  have hln := nR_le s
  have HCL := hide hcl
  clear hcl
  go_enter Tryd.func18, Tryd.ntmps18
  go_wp2_with fail
  refine (rplaceK s k _ _ hs hk rfl).mono ?_; rintro e w1 ⟨rfl, b1⟩
  replace HT := hide (HT.out.trans (b1.mono HT.out.size))
  clear b1
  go_wp2_with fail
  refine (rstartK s k _ hs).mono ?_; rintro e w' ⟨rfl, rfl⟩
  go_wp2_with fail
  refine (rrunesK s (stK s k) _ hs hst).mono ?_; rintro e w2 ⟨rfl, b1⟩
  replace HT := hide (HT.out.trans (b1.mono HT.out.size))
  clear b1
  go_wp2_with fail
  refine (rendK s k _ hs).mono ?_; rintro e w' ⟨rfl, rfl⟩
  go_wp2_with fail
  refine (rrunesK s (enK s k) _ hs hen).mono ?_; rintro e w3 ⟨rfl, b1⟩
  replace HT := hide (HT.out.trans (b1.mono HT.out.size))
  replace HCL := hide (HCL.out.below HT.out)
  clear b1
  obtain ⟨st, hst9⟩ : ∃ x, stK s k = x := ⟨_, rfl⟩
  obtain ⟨en, hen9⟩ : ∃ x, enK s k = x := ⟨_, rfl⟩
  have HST := hide hst9
  have HEN := hide hen9
  rw [hst9] at hst hsk ⊢
  rw [hen9] at hen hke ⊢
  clear hst9 hen9
  go_wp2
  go_ret
  exact ro_end rfl HT.out

set_option maxHeartbeats 2000000 in
set_option maxRecDepth 100000 in
theorem ronce_4 (s : ByteArray) (k : Nat) (A : Option Addr) (c : Nat) (w : World) (hs : s.size ≤ 1048576) (hk : k ≤ nR s) (hcl : ClsAt A s w) : Calls Tryd.prog 18 #[.string s, .slice A (nR s) c, .int .i64 k, .int .i64 4] w (ROPost s k 4 w) := by
  have HT := hide (Below.refl w.heap.size w)
  have hst := stK_n s k
  have hen := enK_n s k
  have hsk := stK_le hk
  have hke := enK_ge hk
  have hln := nR_le s
  have HCL := hide hcl
  clear hcl
  go_enter Tryd.func18, Tryd.ntmps18
  go_wp2_with fail
  refine (rplaceK s k _ _ hs hk rfl).mono ?_; rintro e w1 ⟨rfl, b1⟩
  replace HT := hide (HT.out.trans (b1.mono HT.out.size))
  clear b1
  go_wp2_with fail
  refine (rstartK s k _ hs).mono ?_; rintro e w' ⟨rfl, rfl⟩
  go_wp2_with fail
  refine (rrunesK s (stK s k) _ hs hst).mono ?_; rintro e w2 ⟨rfl, b1⟩
  replace HT := hide (HT.out.trans (b1.mono HT.out.size))
  clear b1
  go_wp2_with fail
  refine (rendK s k _ hs).mono ?_; rintro e w' ⟨rfl, rfl⟩
  go_wp2_with fail
  refine (rrunesK s (enK s k) _ hs hen).mono ?_; rintro e w3 ⟨rfl, b1⟩
  replace HT := hide (HT.out.trans (b1.mono HT.out.size))
  replace HCL := hide (HCL.out.below HT.out)
  clear b1
  obtain ⟨st, hst9⟩ : ∃ x, stK s k = x := ⟨_, rfl⟩
  obtain ⟨en, hen9⟩ : ∃ x, enK s k = x := ⟨_, rfl⟩
  have HST := hide hst9
  have HEN := hide hen9
  rw [hst9] at hst hsk ⊢
  rw [hen9] at hen hke ⊢
  clear hst9 hen9
  by_cases h0 : st = 0
  · subst h0
    go_wp2
    go_ret
    exact ro_end (by show (k : Int) = (upK s k : Nat); unfold upK; rw [if_pos HST.out]) HT.out
  · obtain ⟨q, rfl⟩ : ∃ q, st = q + 1 := ⟨st - 1, by omega⟩
    have hq0 : (((q + 1 : Nat) : Int) == 0) = false := beq_eq_false_iff_ne.2 (by omega)
    have hsq := stK_n s q
    go_wp2_with fail
    refine (rplaceK s q _ _ hs (by omega) (by omega)).mono ?_; rintro e w4 ⟨rfl, b1⟩
    replace HT := hide (HT.out.trans (b1.mono HT.out.size))
    clear b1
    go_wp2_with fail
    refine (rstartK s q _ hs).mono ?_; rintro e w' ⟨rfl, rfl⟩
    go_wp2_with fail
    refine (rrunesK s (stK s q) _ hs hsq).mono ?_; rintro e w5 ⟨rfl, b1⟩
    replace HT := hide (HT.out.trans (b1.mono HT.out.size))
    clear b1
    have HU := hide (show upK s k = min (stK s q + k - (q + 1)) q by unfold upK; rw [HST.out, if_neg (by omega), Nat.add_sub_cancel])
    go_wp2
    go_ret
    exact ro_end (by show _ = ((upK s k : Nat) : Int); rw [HU.out]; omega) HT.out

set_option maxHeartbeats 2000000 in
set_option maxRecDepth 100000 in
theorem ronce_5 (s : ByteArray) (k : Nat) (A : Option Addr) (c : Nat) (w : World) (hs : s.size ≤ 1048576) (hk : k ≤ nR s) (hcl : ClsAt A s w) : Calls Tryd.prog 18 #[.string s, .slice A (nR s) c, .int .i64 k, .int .i64 5] w (ROPost s k 5 w) := by
  have HT := hide (Below.refl w.heap.size w)
  have hst := stK_n s k
  have hen := enK_n s k
  have hsk := stK_le hk
  have hke := enK_ge hk
  have hln := nR_le s
  have HCL := hide hcl
  clear hcl
  go_enter Tryd.func18, Tryd.ntmps18
  go_wp2_with fail
  refine (rplaceK s k _ _ hs hk rfl).mono ?_; rintro e w1 ⟨rfl, b1⟩
  replace HT := hide (HT.out.trans (b1.mono HT.out.size))
  clear b1
  go_wp2_with fail
  refine (rstartK s k _ hs).mono ?_; rintro e w' ⟨rfl, rfl⟩
  go_wp2_with fail
  refine (rrunesK s (stK s k) _ hs hst).mono ?_; rintro e w2 ⟨rfl, b1⟩
  replace HT := hide (HT.out.trans (b1.mono HT.out.size))
  clear b1
  go_wp2_with fail
  refine (rendK s k _ hs).mono ?_; rintro e w' ⟨rfl, rfl⟩
  go_wp2_with fail
  refine (rrunesK s (enK s k) _ hs hen).mono ?_; rintro e w3 ⟨rfl, b1⟩
  replace HT := hide (HT.out.trans (b1.mono HT.out.size))
  replace HCL := hide (HCL.out.below HT.out)
  clear b1
  obtain ⟨st, hst9⟩ : ∃ x, stK s k = x := ⟨_, rfl⟩
  obtain ⟨en, hen9⟩ : ∃ x, enK s k = x := ⟨_, rfl⟩
  have HST := hide hst9
  have HEN := hide hen9
  rw [hst9] at hst hsk ⊢
  rw [hen9] at hen hke ⊢
  clear hst9 hen9
  by_cases h0 : en = nR s
  · subst h0
    go_wp2
    go_ret
    exact ro_end (by show (k : Int) = (downK s k : Nat); unfold downK; rw [if_pos HEN.out]) HT.out
  · have hq0 : ((en : Int) == (nR s : Nat)) = false := beq_eq_false_iff_ne.2 (by omega)
    have hsq := enK_n s (en + 1)
    go_wp2_with fail
    refine (rplaceK s (en + 1) _ _ hs (by omega) (by omega)).mono ?_; rintro e w4 ⟨rfl, b1⟩
    replace HT := hide (HT.out.trans (b1.mono HT.out.size))
    clear b1
    go_wp2_with fail
    refine (rendK s (en + 1) _ hs).mono ?_; rintro e w' ⟨rfl, rfl⟩
    go_wp2_with fail
    refine (rrunesK s (enK s (en + 1)) _ hs hsq).mono ?_; rintro e w5 ⟨rfl, b1⟩
    replace HT := hide (HT.out.trans (b1.mono HT.out.size))
    clear b1
    have HU := hide (show downK s k = min (en + 1 + k - st) (enK s (en + 1)) by unfold downK; rw [HST.out, HEN.out, if_neg h0])
    go_wp2
    go_ret
    exact ro_end (by show _ = ((downK s k : Nat) : Int); rw [HU.out]; omega) HT.out

set_option maxHeartbeats 2000000 in
set_option maxRecDepth 100000 in
theorem ronce_6 (s : ByteArray) (k : Nat) (A : Option Addr) (c : Nat) (w : World) (hs : s.size ≤ 1048576) (hk : k ≤ nR s) (hcl : ClsAt A s w) : Calls Tryd.prog 18 #[.string s, .slice A (nR s) c, .int .i64 k, .int .i64 6] w (ROPost s k 6 w) := by
  have HT := hide (Below.refl w.heap.size w)
  have hst := stK_n s k
  have hen := enK_n s k
  have hsk := stK_le hk
  have hke := enK_ge hk
  have hln := nR_le s
  have HCL := hide hcl
  clear hcl
  go_enter Tryd.func18, Tryd.ntmps18
  go_wp2_with fail
  refine (rplaceK s k _ _ hs hk rfl).mono ?_; rintro e w1 ⟨rfl, b1⟩
  replace HT := hide (HT.out.trans (b1.mono HT.out.size))
  clear b1
  go_wp2_with fail
  refine (rstartK s k _ hs).mono ?_; rintro e w' ⟨rfl, rfl⟩
  go_wp2_with fail
  refine (rrunesK s (stK s k) _ hs hst).mono ?_; rintro e w2 ⟨rfl, b1⟩
  replace HT := hide (HT.out.trans (b1.mono HT.out.size))
  clear b1
  go_wp2_with fail
  refine (rendK s k _ hs).mono ?_; rintro e w' ⟨rfl, rfl⟩
  go_wp2_with fail
  refine (rrunesK s (enK s k) _ hs hen).mono ?_; rintro e w3 ⟨rfl, b1⟩
  replace HT := hide (HT.out.trans (b1.mono HT.out.size))
  replace HCL := hide (HCL.out.below HT.out)
  clear b1
  obtain ⟨st, hst9⟩ : ∃ x, stK s k = x := ⟨_, rfl⟩
  obtain ⟨en, hen9⟩ : ∃ x, enK s k = x := ⟨_, rfl⟩
  have HST := hide hst9
  have HEN := hide hen9
  rw [hst9] at hst hsk ⊢
  rw [hen9] at hen hke ⊢
  clear hst9 hen9
  go_upto_block 1 with (fail)
  go_cut [2] (fun v wx => v = .int .i64 (skK s isBetween k : Nat) ∧ Hid (Below w.heap.size w wx) ∧ Hid (ClsAt A s wx))
  case first =>
    go_wp2_with fail
    go_loopg [2] (nR s - k) (fun gk t wr => ∃ j : Nat, k ≤ j ∧ j ≤ nR s ∧ t = .int .i64 j ∧ Hid (gk = nR s - j) ∧ Hid (skK s isBetween j = skK s isBetween k) ∧ Hid (Below w.heap.size w wr) ∧ Hid (ClsAt A s wr))
    case atStart => exact ⟨k, Nat.le_refl _, hk, rfl, hide rfl, hide rfl, HT, HCL⟩
    case round =>
      clear HT HCL
      obtain ⟨j, hj0, hj, rfl, HG, HE, HT, HCL⟩ := hrel
      by_cases hlt : j < nR s
      · obtain ⟨g, rfl, hc⟩ := HCL.out j hlt
        obtain ⟨c9, hc9⟩ : ∃ x, cl s j = x := ⟨_, rfl⟩
        have HC9 := hide hc9
        rw [hc9] at hc
        clear hc9
        cases hb : (c9 != 1)
        · have HS := hide (skK_stop (s := s) (p := isBetween) (k := j) (by rw [HC9.out]; exact hb))
          go_wp2
          go_meet
          exact ⟨by rw [← HE.out, HS.out], HT, HCL⟩
        · have HN := hide (skK_go (p := isBetween) hlt (by rw [HC9.out]; exact hb))
          go_wp2
          go_roundg (nR s - (j + 1))
          case measure => have := HG.out; omega
          case rel => exact ⟨j + 1, by omega, by omega, by go_num, hide rfl, hide (by rw [HN.out, HE.out]), HT, HCL⟩
      · obtain rfl : j = nR s := by omega
        go_wp2
        go_meet
        exact ⟨by rw [← HE.out, skK_end (Nat.le_refl _)], HT, HCL⟩
  case rest =>
  clear HT HCL
  obtain ⟨rfl, HT, HCL⟩ := hcut
  have h1 := (skK_spec s isBetween k hk).2.1
  obtain ⟨a, ha⟩ : ∃ a, skK s isBetween k = a := ⟨_, rfl⟩
  have HA := hide ha
  rw [ha] at h1 ⊢
  clear ha
  go_wp2_with fail
  go_loopg [2] (nR s - a) (fun gk t wr => ∃ j : Nat, a ≤ j ∧ j ≤ nR s ∧ t = .int .i64 j ∧ Hid (gk = nR s - j) ∧ Hid (skK s isWord j = skK s isWord a) ∧ Hid (Below w.heap.size w wr) ∧ Hid (ClsAt A s wr))
  case atStart => exact ⟨a, Nat.le_refl _, h1, rfl, hide rfl, hide rfl, HT, HCL⟩
  case round =>
    clear HT HCL
    obtain ⟨j, hj0, hj, rfl, HG, HE, HT, HCL⟩ := hrel
    by_cases hlt : j < nR s
    · obtain ⟨g, rfl, hc⟩ := HCL.out j hlt
      obtain ⟨c9, hc9⟩ : ∃ x, cl s j = x := ⟨_, rfl⟩
      have HC9 := hide hc9
      rw [hc9] at hc
      clear hc9
      cases hb : (c9 == 1)
      · have HS := hide (skK_stop (s := s) (p := isWord) (k := j) (by rw [HC9.out]; exact hb))
        go_wp2
        go_ret
        exact ro_end (by show _ = ((skK s isWord (skK s isBetween k) : Nat) : Int); rw [HA.out]; rw [← HE.out, HS.out]) HT.out
      · have HN := hide (skK_go (p := isWord) hlt (by rw [HC9.out]; exact hb))
        go_wp2
        go_roundg (nR s - (j + 1))
        case measure => have := HG.out; omega
        case rel => exact ⟨j + 1, by omega, by omega, by go_num, hide rfl, hide (by rw [HN.out, HE.out]), HT, HCL⟩
    · obtain rfl : j = nR s := by omega
      go_wp2
      go_ret
      exact ro_end (by show _ = ((skK s isWord (skK s isBetween k) : Nat) : Int); rw [HA.out]; rw [← HE.out, skK_end (Nat.le_refl _)]) HT.out

set_option maxHeartbeats 2000000 in
set_option maxRecDepth 100000 in
theorem ronce_7 (s : ByteArray) (k : Nat) (A : Option Addr) (c : Nat) (w : World) (hs : s.size ≤ 1048576) (hk : k ≤ nR s) (hcl : ClsAt A s w) : Calls Tryd.prog 18 #[.string s, .slice A (nR s) c, .int .i64 k, .int .i64 7] w (ROPost s k 7 w) := by
  have HT := hide (Below.refl w.heap.size w)
  have hst := stK_n s k
  have hen := enK_n s k
  have hsk := stK_le hk
  have hke := enK_ge hk
  have hln := nR_le s
  have HCL := hide hcl
  clear hcl
  go_enter Tryd.func18, Tryd.ntmps18
  go_wp2_with fail
  refine (rplaceK s k _ _ hs hk rfl).mono ?_; rintro e w1 ⟨rfl, b1⟩
  replace HT := hide (HT.out.trans (b1.mono HT.out.size))
  clear b1
  go_wp2_with fail
  refine (rstartK s k _ hs).mono ?_; rintro e w' ⟨rfl, rfl⟩
  go_wp2_with fail
  refine (rrunesK s (stK s k) _ hs hst).mono ?_; rintro e w2 ⟨rfl, b1⟩
  replace HT := hide (HT.out.trans (b1.mono HT.out.size))
  clear b1
  go_wp2_with fail
  refine (rendK s k _ hs).mono ?_; rintro e w' ⟨rfl, rfl⟩
  go_wp2_with fail
  refine (rrunesK s (enK s k) _ hs hen).mono ?_; rintro e w3 ⟨rfl, b1⟩
  replace HT := hide (HT.out.trans (b1.mono HT.out.size))
  replace HCL := hide (HCL.out.below HT.out)
  clear b1
  obtain ⟨st, hst9⟩ : ∃ x, stK s k = x := ⟨_, rfl⟩
  obtain ⟨en, hen9⟩ : ∃ x, enK s k = x := ⟨_, rfl⟩
  have HST := hide hst9
  have HEN := hide hen9
  rw [hst9] at hst hsk ⊢
  rw [hen9] at hen hke ⊢
  clear hst9 hen9
  go_upto_block 5 with (fail)
  go_cut [2] (fun v wx => v = .int .i64 (bkK s isBetween k : Nat) ∧ Hid (Below w.heap.size w wx) ∧ Hid (ClsAt A s wx))
  case first =>
    go_wp2_with fail
    go_loopg [2] (k) (fun gk t wr => ∃ j : Nat, j ≤ nR s ∧ t = .int .i64 j ∧ Hid (gk = j) ∧ Hid (bkK s isBetween j = bkK s isBetween k) ∧ Hid (Below w.heap.size w wr) ∧ Hid (ClsAt A s wr))
    case atStart => exact ⟨k, hk, rfl, hide rfl, hide rfl, HT, HCL⟩
    case round =>
      clear HT HCL
      obtain ⟨j, hj, rfl, HG, HE, HT, HCL⟩ := hrel
      cases j with
      | zero =>
        go_wp2
        go_meet
        exact ⟨by rw [← HE.out]; rfl, HT, HCL⟩
      | succ j =>
        have hlt : j < nR s := by omega
        obtain ⟨g, rfl, hc⟩ := HCL.out j hlt
        obtain ⟨c9, hc9⟩ : ∃ x, cl s j = x := ⟨_, rfl⟩
        have HC9 := hide hc9
        rw [hc9] at hc
        clear hc9
        cases hb : (c9 != 1)
        · have HS := hide (bkK_stop (s := s) (p := isBetween) (k := j) (by rw [HC9.out]; exact hb))
          go_wp2
          go_meet
          exact ⟨by rw [← HE.out, HS.out], HT, HCL⟩
        · have HN := hide (bkK_go (s := s) (p := isBetween) (k := j) (by rw [HC9.out]; exact hb))
          go_wp2
          go_roundg j
          case measure => have := HG.out; omega
          case rel => exact ⟨j, by omega, by go_num, hide rfl, hide (by rw [← HN.out, HE.out]), HT, HCL⟩
  case rest =>
  clear HT HCL
  obtain ⟨rfl, HT, HCL⟩ := hcut
  have h1 := Nat.le_trans (bkK_le s isBetween k) hk
  obtain ⟨a, ha⟩ : ∃ a, bkK s isBetween k = a := ⟨_, rfl⟩
  have HA := hide ha
  rw [ha] at h1 ⊢
  clear ha
  go_wp2_with fail
  go_loopg [2] (a) (fun gk t wr => ∃ j : Nat, j ≤ nR s ∧ t = .int .i64 j ∧ Hid (gk = j) ∧ Hid (bkK s isWord j = bkK s isWord a) ∧ Hid (Below w.heap.size w wr) ∧ Hid (ClsAt A s wr))
  case atStart => exact ⟨a, h1, rfl, hide rfl, hide rfl, HT, HCL⟩
  case round =>
    clear HT HCL
    obtain ⟨j, hj, rfl, HG, HE, HT, HCL⟩ := hrel
    cases j with
    | zero =>
      go_wp2
      go_ret
      exact ro_end (by show _ = ((bkK s isWord (bkK s isBetween k) : Nat) : Int); rw [HA.out]; rw [← HE.out]; rfl) HT.out
    | succ j =>
      have hlt : j < nR s := by omega
      obtain ⟨g, rfl, hc⟩ := HCL.out j hlt
      obtain ⟨c9, hc9⟩ : ∃ x, cl s j = x := ⟨_, rfl⟩
      have HC9 := hide hc9
      rw [hc9] at hc
      clear hc9
      cases hb : (c9 == 1)
      · have HS := hide (bkK_stop (s := s) (p := isWord) (k := j) (by rw [HC9.out]; exact hb))
        go_wp2
        go_ret
        exact ro_end (by show _ = ((bkK s isWord (bkK s isBetween k) : Nat) : Int); rw [HA.out]; rw [← HE.out, HS.out]) HT.out
      · have HN := hide (bkK_go (s := s) (p := isWord) (k := j) (by rw [HC9.out]; exact hb))
        go_wp2
        go_roundg j
        case measure => have := HG.out; omega
        case rel => exact ⟨j, by omega, by go_num, hide rfl, hide (by rw [← HN.out, HE.out]), HT, HCL⟩

set_option maxHeartbeats 2000000 in
set_option maxRecDepth 100000 in
theorem ronce_8 (s : ByteArray) (k : Nat) (A : Option Addr) (c : Nat) (w : World) (hs : s.size ≤ 1048576) (hk : k ≤ nR s) (hcl : ClsAt A s w) : Calls Tryd.prog 18 #[.string s, .slice A (nR s) c, .int .i64 k, .int .i64 8] w (ROPost s k 8 w) := by
  have HT := hide (Below.refl w.heap.size w)
  have hst := stK_n s k
  have hen := enK_n s k
  have hsk := stK_le hk
  have hke := enK_ge hk
  have hln := nR_le s
  have HCL := hide hcl
  clear hcl
  go_enter Tryd.func18, Tryd.ntmps18
  go_wp2_with fail
  refine (rplaceK s k _ _ hs hk rfl).mono ?_; rintro e w1 ⟨rfl, b1⟩
  replace HT := hide (HT.out.trans (b1.mono HT.out.size))
  clear b1
  go_wp2_with fail
  refine (rstartK s k _ hs).mono ?_; rintro e w' ⟨rfl, rfl⟩
  go_wp2_with fail
  refine (rrunesK s (stK s k) _ hs hst).mono ?_; rintro e w2 ⟨rfl, b1⟩
  replace HT := hide (HT.out.trans (b1.mono HT.out.size))
  clear b1
  go_wp2_with fail
  refine (rendK s k _ hs).mono ?_; rintro e w' ⟨rfl, rfl⟩
  go_wp2_with fail
  refine (rrunesK s (enK s k) _ hs hen).mono ?_; rintro e w3 ⟨rfl, b1⟩
  replace HT := hide (HT.out.trans (b1.mono HT.out.size))
  replace HCL := hide (HCL.out.below HT.out)
  clear b1
  obtain ⟨st, hst9⟩ : ∃ x, stK s k = x := ⟨_, rfl⟩
  obtain ⟨en, hen9⟩ : ∃ x, enK s k = x := ⟨_, rfl⟩
  have HST := hide hst9
  have HEN := hide hen9
  rw [hst9] at hst hsk ⊢
  rw [hen9] at hen hke ⊢
  clear hst9 hen9
  go_upto_block 9 with (fail)
  go_cut [2] (fun v wx => v = .int .i64 (skK s (isOther (cl s k)) k : Nat) ∧ Hid (Below w.heap.size w wx) ∧ Hid (ClsAt A s wx))
  case first =>
    go_wp2_with fail
    go_loopg [2] (nR s - k) (fun gk t wr => ∃ j : Nat, k ≤ j ∧ j ≤ nR s ∧ t = .int .i64 j ∧ Hid (gk = nR s - j) ∧ Hid (skK s (isOther (cl s k)) j = skK s (isOther (cl s k)) k) ∧ Hid (Below w.heap.size w wr) ∧ Hid (ClsAt A s wr))
    case atStart => exact ⟨k, Nat.le_refl _, hk, rfl, hide rfl, hide rfl, HT, HCL⟩
    case round =>
      clear HT HCL
      obtain ⟨j, hj0, hj, rfl, HG, HE, HT, HCL⟩ := hrel
      by_cases hlt : j < nR s
      · have hl9 : decide ((j : Int) < (nR s : Nat)) = true := by simpa using hlt
        obtain ⟨g, rfl, hc⟩ := HCL.out j hlt
        obtain ⟨g2, e2, hd⟩ := HCL.out k (by omega)
        obtain rfl : g = g2 := by injection e2 with e2; injection e2
        obtain ⟨c9, hc9⟩ : ∃ x, cl s j = x := ⟨_, rfl⟩
        obtain ⟨d9, hd9⟩ : ∃ x, cl s k = x := ⟨_, rfl⟩
        have HC9 := hide hc9
        have HD9 := hide hd9
        rw [hc9] at hc
        rw [hd9] at hd
        clear hc9 hd9 e2
        by_cases hp0 : 0 < c9
        · have hp9 : decide (0 < c9) = true := by simpa using hp0
          cases hb : (c9 == d9)
          · have HS := hide (skK_stop (s := s) (p := isOther (cl s k)) (k := j) (by rw [HC9.out, HD9.out]; unfold isOther; rw [hb]; rfl))
            go_wp2
            go_quiet (fail)
            go_wp2
            go_meet
            exact ⟨by rw [← HE.out, HS.out], hide (below_drewM HT.out _), hide (HCL.out.below (below_drewM (Below.refl _ _) _))⟩
          · have HN := hide (skK_go (s := s) (p := isOther (cl s k)) hlt (by rw [HC9.out, HD9.out]; unfold isOther; rw [hb, hp9]; rfl))
            go_wp2
            go_quiet (fail)
            go_wp2
            go_roundg (nR s - (j + 1))
            case measure => have := HG.out; omega
            case rel => exact ⟨j + 1, by omega, by omega, by go_num, hide rfl, hide (by rw [HN.out, HE.out]), hide (below_drewM HT.out _), hide (HCL.out.below (below_drewM (Below.refl _ _) _))⟩
        · have hp9 : decide (0 < c9) = false := by simpa using hp0
          have HS := hide (skK_stop (s := s) (p := isOther (cl s k)) (k := j) (by rw [HC9.out]; unfold isOther; rw [hp9, Bool.and_false]))
          go_wp2
          go_quiet (fail)
          go_wp2
          go_meet
          exact ⟨by rw [← HE.out, HS.out], hide (below_drewM HT.out _), hide (HCL.out.below (below_drewM (Below.refl _ _) _))⟩
      · have hl9 : decide ((j : Int) < (nR s : Nat)) = false := by simpa using hlt
        have hj9 : j = nR s := by omega
        have HJ9 := hide hj9
        clear hj9
        go_wp2
        go_quiet (fail)
        go_wp2
        go_meet
        exact ⟨by rw [← HE.out, skK_end (by rw [HJ9.out]; exact Nat.le_refl _)], hide (below_drewM HT.out _), hide (HCL.out.below (below_drewM (Below.refl _ _) _))⟩
  case rest =>
  clear HT HCL
  obtain ⟨rfl, HT, HCL⟩ := hcut
  have h1 := (skK_spec s (isOther (cl s k)) k hk).2.1
  obtain ⟨a, ha⟩ : ∃ a, skK s (isOther (cl s k)) k = a := ⟨_, rfl⟩
  have HA := hide ha
  rw [ha] at h1 ⊢
  clear ha
  go_wp2_with fail
  go_loopg [2] (nR s - a) (fun gk t wr => ∃ j : Nat, a ≤ j ∧ j ≤ nR s ∧ t = .int .i64 j ∧ Hid (gk = nR s - j) ∧ Hid (skK s isBlank j = skK s isBlank a) ∧ Hid (Below w.heap.size w wr) ∧ Hid (ClsAt A s wr))
  case atStart => exact ⟨a, Nat.le_refl _, h1, rfl, hide rfl, hide rfl, HT, HCL⟩
  case round =>
    clear HT HCL
    obtain ⟨j, hj0, hj, rfl, HG, HE, HT, HCL⟩ := hrel
    by_cases hlt : j < nR s
    · obtain ⟨g, rfl, hc⟩ := HCL.out j hlt
      obtain ⟨c9, hc9⟩ : ∃ x, cl s j = x := ⟨_, rfl⟩
      have HC9 := hide hc9
      rw [hc9] at hc
      clear hc9
      cases hb : (c9 == 0)
      · have HS := hide (skK_stop (s := s) (p := isBlank) (k := j) (by rw [HC9.out]; exact hb))
        go_wp2
        go_ret
        exact ro_end (by show _ = ((skK s isBlank (skK s (isOther (cl s k)) k) : Nat) : Int); rw [HA.out]; rw [← HE.out, HS.out]) HT.out
      · have HN := hide (skK_go (p := isBlank) hlt (by rw [HC9.out]; exact hb))
        go_wp2
        go_roundg (nR s - (j + 1))
        case measure => have := HG.out; omega
        case rel => exact ⟨j + 1, by omega, by omega, by go_num, hide rfl, hide (by rw [HN.out, HE.out]), HT, HCL⟩
    · obtain rfl : j = nR s := by omega
      go_wp2
      go_ret
      exact ro_end (by show _ = ((skK s isBlank (skK s (isOther (cl s k)) k) : Nat) : Int); rw [HA.out]; rw [← HE.out, skK_end (Nat.le_refl _)]) HT.out

set_option maxHeartbeats 2000000 in
set_option maxRecDepth 100000 in
theorem ronce_9 (s : ByteArray) (k : Nat) (A : Option Addr) (c : Nat) (w : World) (hs : s.size ≤ 1048576) (hk : k ≤ nR s) (hcl : ClsAt A s w) : Calls Tryd.prog 18 #[.string s, .slice A (nR s) c, .int .i64 k, .int .i64 9] w (ROPost s k 9 w) := by
  have HT := hide (Below.refl w.heap.size w)
  have hst := stK_n s k
  have hen := enK_n s k
  have hsk := stK_le hk
  have hke := enK_ge hk
  have hln := nR_le s
  have HCL := hide hcl
  clear hcl
  go_enter Tryd.func18, Tryd.ntmps18
  go_wp2_with fail
  refine (rplaceK s k _ _ hs hk rfl).mono ?_; rintro e w1 ⟨rfl, b1⟩
  replace HT := hide (HT.out.trans (b1.mono HT.out.size))
  clear b1
  go_wp2_with fail
  refine (rstartK s k _ hs).mono ?_; rintro e w' ⟨rfl, rfl⟩
  go_wp2_with fail
  refine (rrunesK s (stK s k) _ hs hst).mono ?_; rintro e w2 ⟨rfl, b1⟩
  replace HT := hide (HT.out.trans (b1.mono HT.out.size))
  clear b1
  go_wp2_with fail
  refine (rendK s k _ hs).mono ?_; rintro e w' ⟨rfl, rfl⟩
  go_wp2_with fail
  refine (rrunesK s (enK s k) _ hs hen).mono ?_; rintro e w3 ⟨rfl, b1⟩
  replace HT := hide (HT.out.trans (b1.mono HT.out.size))
  replace HCL := hide (HCL.out.below HT.out)
  clear b1
  obtain ⟨st, hst9⟩ : ∃ x, stK s k = x := ⟨_, rfl⟩
  obtain ⟨en, hen9⟩ : ∃ x, enK s k = x := ⟨_, rfl⟩
  have HST := hide hst9
  have HEN := hide hen9
  rw [hst9] at hst hsk ⊢
  rw [hen9] at hen hke ⊢
  clear hst9 hen9
  go_upto_block 13 with (fail)
  go_cut [2] (fun v wx => v = .int .i64 (bkK s isBlank k : Nat) ∧ Hid (Below w.heap.size w wx) ∧ Hid (ClsAt A s wx))
  case first =>
    go_wp2_with fail
    go_loopg [2] (k) (fun gk t wr => ∃ j : Nat, j ≤ nR s ∧ t = .int .i64 j ∧ Hid (gk = j) ∧ Hid (bkK s isBlank j = bkK s isBlank k) ∧ Hid (Below w.heap.size w wr) ∧ Hid (ClsAt A s wr))
    case atStart => exact ⟨k, hk, rfl, hide rfl, hide rfl, HT, HCL⟩
    case round =>
      clear HT HCL
      obtain ⟨j, hj, rfl, HG, HE, HT, HCL⟩ := hrel
      cases j with
      | zero =>
        go_wp2
        go_meet
        exact ⟨by rw [← HE.out]; rfl, HT, HCL⟩
      | succ j =>
        have hlt : j < nR s := by omega
        obtain ⟨g, rfl, hc⟩ := HCL.out j hlt
        obtain ⟨c9, hc9⟩ : ∃ x, cl s j = x := ⟨_, rfl⟩
        have HC9 := hide hc9
        rw [hc9] at hc
        clear hc9
        cases hb : (c9 == 0)
        · have HS := hide (bkK_stop (s := s) (p := isBlank) (k := j) (by rw [HC9.out]; exact hb))
          go_wp2
          go_meet
          exact ⟨by rw [← HE.out, HS.out], HT, HCL⟩
        · have HN := hide (bkK_go (s := s) (p := isBlank) (k := j) (by rw [HC9.out]; exact hb))
          go_wp2
          go_roundg j
          case measure => have := HG.out; omega
          case rel => exact ⟨j, by omega, by go_num, hide rfl, hide (by rw [← HN.out, HE.out]), HT, HCL⟩
  case rest =>
  clear HT HCL
  obtain ⟨rfl, HT, HCL⟩ := hcut
  have h1 := Nat.le_trans (bkK_le s isBlank k) hk
  obtain ⟨a, ha⟩ : ∃ a, bkK s isBlank k = a := ⟨_, rfl⟩
  have HA := hide ha
  rw [ha] at h1 ⊢
  clear ha
  have HV := hide (show onceK s 9 k = bkK s (isOther (clB s a)) a by rw [← HA.out]; rfl)
  go_wp2_with fail
  go_loopg [2] a (fun gk t wr => ∃ j : Nat, j ≤ a ∧ t = .int .i64 j ∧ Hid (gk = j) ∧ Hid (bkK s (isOther (clB s a)) j = bkK s (isOther (clB s a)) a) ∧ Hid (Below w.heap.size w wr) ∧ Hid (ClsAt A s wr))
  case atStart => exact ⟨a, Nat.le_refl _, rfl, hide rfl, hide rfl, HT, HCL⟩
  case round =>
    clear HT HCL
    obtain ⟨j, hj, rfl, HG, HE, HT, HCL⟩ := hrel
    cases j with
    | zero =>
      have hl9 : decide ((0 : Int) < ((0 : Nat) : Int)) = false := by simp
      go_wp2
      go_quiet (fail)
      go_wp2
      go_ret
      exact ro_end (by rw [HV.out, ← HE.out]; rfl) (below_drewM HT.out _)
    | succ j =>
      obtain ⟨d, hr⟩ : ∃ d, a = d + 1 := ⟨a - 1, by omega⟩
      have HCB := hide (show clB s a = cl s d by rw [hr]; unfold clB; rw [if_neg (by omega), Nat.add_sub_cancel])
      obtain ⟨q, hq⟩ : ∃ q, q = j + 1 := ⟨_, rfl⟩
      obtain ⟨g, rfl, hc⟩ := HCL.out j (by omega)
      obtain ⟨g2, e2, hd⟩ := HCL.out d (by omega)
      obtain rfl : g = g2 := by injection e2 with e2; injection e2
      obtain ⟨c9, hc9⟩ : ∃ x, cl s j = x := ⟨_, rfl⟩
      obtain ⟨d9, hd9⟩ : ∃ x, cl s d = x := ⟨_, rfl⟩
      have HC9 := hide hc9
      have HD9 := hide hd9
      rw [hc9] at hc
      rw [hd9] at hd
      rw [← hq]
      have HQ := hide hq
      have HR := hide hr
      have hl9 : decide ((0 : Int) < (q : Nat)) = true := by simp; omega
      have hl8 : 0 < q := by omega
      have hl7 : 0 < a := by omega
      have i0 : IntKind.i64.wrap ((q : Int) - 1) = (j : Int) := by rw [Go.wrap_small _ (by omega) (by omega)]; omega
      have i1 : IntKind.i64.wrap ((a : Int) - 1) = (d : Int) := by rw [Go.wrap_small _ (by omega) (by omega)]; omega
      have i2 : (0 : Int) ≤ (j : Int) := by omega
      have i3 : (j : Int) < (nR s : Int) := by omega
      have i4 : (0 : Int) ≤ (d : Int) := by omega
      have i5 : (d : Int) < (nR s : Int) := by omega
      clear hc9 hd9 e2 hq hr
      by_cases hp0 : 0 < c9
      · have hp9 : decide (0 < c9) = true := by simpa using hp0
        cases hb : (c9 == d9)
        · have HS := hide (bkK_stop (s := s) (p := isOther (clB s a)) (k := j) (by rw [HCB.out, HC9.out, HD9.out]; unfold isOther; rw [hb]; rfl))
          go_wp2
          go_quiet (fail)
          clear i0 i1
          go_wp2
          go_ret
          exact ro_end (by rw [HV.out, ← HE.out, HS.out, HQ.out]) (below_drewM HT.out _)
        · have HN := hide (bkK_go (s := s) (p := isOther (clB s a)) (k := j) (by rw [HCB.out, HC9.out, HD9.out]; unfold isOther; rw [hb, hp9]; rfl))
          go_wp2
          go_quiet (fail)
          have hq1 := HQ.out
          have hq2 : (q : Int) - 1 = (j : Int) := by omega
          clear i0 i1 hq1
          go_wp2
          go_roundg j
          case measure => have := HG.out; omega
          case rel => exact ⟨j, by omega, rfl, hide rfl, hide (by rw [← HN.out, HE.out]), hide (below_drewM HT.out _), hide (HCL.out.below (below_drewM (Below.refl _ _) _))⟩
      · have hp9 : decide (0 < c9) = false := by simpa using hp0
        have HS := hide (bkK_stop (s := s) (p := isOther (clB s a)) (k := j) (by rw [HC9.out]; unfold isOther; rw [hp9, Bool.and_false]))
        go_wp2
        go_quiet (fail)
        clear i0 i1
        go_wp2
        go_ret
        exact ro_end (by rw [HV.out, ← HE.out, HS.out, HQ.out]) (below_drewM HT.out _)

set_option maxHeartbeats 2000000 in
set_option maxRecDepth 100000 in
theorem ronce_11 (s : ByteArray) (k : Nat) (A : Option Addr) (c : Nat) (w : World) (hs : s.size ≤ 1048576) (hk : k ≤ nR s) (hcl : ClsAt A s w) : Calls Tryd.prog 18 #[.string s, .slice A (nR s) c, .int .i64 k, .int .i64 11] w (ROPost s k 11 w) := by
  have HT := hide (Below.refl w.heap.size w)
  have hst := stK_n s k
  have hen := enK_n s k
  have hsk := stK_le hk
  have hke := enK_ge hk
  have hln := nR_le s
  have HCL := hide hcl
  clear hcl
  go_enter Tryd.func18, Tryd.ntmps18
  go_wp2_with fail
  refine (rplaceK s k _ _ hs hk rfl).mono ?_; rintro e w1 ⟨rfl, b1⟩
  replace HT := hide (HT.out.trans (b1.mono HT.out.size))
  clear b1
  go_wp2_with fail
  refine (rstartK s k _ hs).mono ?_; rintro e w' ⟨rfl, rfl⟩
  go_wp2_with fail
  refine (rrunesK s (stK s k) _ hs hst).mono ?_; rintro e w2 ⟨rfl, b1⟩
  replace HT := hide (HT.out.trans (b1.mono HT.out.size))
  clear b1
  go_wp2_with fail
  refine (rendK s k _ hs).mono ?_; rintro e w' ⟨rfl, rfl⟩
  go_wp2_with fail
  refine (rrunesK s (enK s k) _ hs hen).mono ?_; rintro e w3 ⟨rfl, b1⟩
  replace HT := hide (HT.out.trans (b1.mono HT.out.size))
  replace HCL := hide (HCL.out.below HT.out)
  clear b1
  obtain ⟨st, hst9⟩ : ∃ x, stK s k = x := ⟨_, rfl⟩
  obtain ⟨en, hen9⟩ : ∃ x, enK s k = x := ⟨_, rfl⟩
  have HST := hide hst9
  have HEN := hide hen9
  rw [hst9] at hst hsk ⊢
  rw [hen9] at hen hke ⊢
  clear hst9 hen9
  have hse : st ≤ en := by omega
  have HV := hide (show onceK s 11 k = min (skK s isBlank st) en by rw [← HST.out, ← HEN.out]; rfl)
  go_wp2_with fail
  go_loopg [2] (en - st) (fun gk t wr => ∃ j : Nat, st ≤ j ∧ j ≤ en ∧ t = .int .i64 j ∧ Hid (gk = en - j) ∧ Hid (skK s isBlank j = skK s isBlank st) ∧ Hid (Below w.heap.size w wr) ∧ Hid (ClsAt A s wr))
  case atStart => exact ⟨st, Nat.le_refl _, hse, rfl, hide rfl, hide rfl, HT, HCL⟩
  case round =>
    clear HT HCL
    obtain ⟨j, hj0, hj, rfl, HG, HE, HT, HCL⟩ := hrel
    by_cases hlt : j < en
    · obtain ⟨g, rfl, hc⟩ := HCL.out j (by omega)
      have hjn : j < nR s := by omega
      obtain ⟨c9, hc9⟩ : ∃ x, cl s j = x := ⟨_, rfl⟩
      have HC9 := hide hc9
      rw [hc9] at hc
      clear hc9
      cases hb : (c9 == 0)
      · have HS := hide (skK_stop (s := s) (p := isBlank) (k := j) (by rw [HC9.out]; exact hb))
        go_wp2
        go_ret
        exact ro_end (by rw [HV.out, ← HE.out, HS.out, Nat.min_eq_left hj]) HT.out
      · have HN := hide (skK_go (p := isBlank) hjn (by rw [HC9.out]; exact hb))
        go_wp2
        go_roundg (en - (j + 1))
        case measure => have := HG.out; omega
        case rel => exact ⟨j + 1, by omega, by omega, by go_num, hide rfl, hide (by rw [HN.out, HE.out]), HT, HCL⟩
    · obtain rfl : j = en := by omega
      have hsp := (skK_spec s isBlank j (by omega)).1
      go_wp2
      go_ret
      exact ro_end (by rw [HV.out, ← HE.out, Nat.min_eq_right hsp]) HT.out

theorem tail_val {s : ByteArray} {k a j T : Nat} (ha : skK s isBlank (min (k + 1) (nR s)) = a) (hT : skK s (isOther (cl s a)) a = T) (hj : a ≤ j) (he : T = j + 1) : tailK s k = j := by
  unfold tailK
  rw [ha, hT, if_pos (by omega)]; omega
theorem tail_same {s : ByteArray} {k a : Nat} (ha : skK s isBlank (min (k + 1) (nR s)) = a) (h : a = nR s) : tailK s k = a := by
  unfold tailK
  rw [ha, skK_end (by omega), if_neg (by omega)]

set_option maxHeartbeats 2000000 in
set_option maxRecDepth 100000 in
theorem ronce_10 (s : ByteArray) (k : Nat) (A : Option Addr) (c : Nat) (w : World) (hs : s.size ≤ 1048576) (hk : k ≤ nR s) (hcl : ClsAt A s w) : Calls Tryd.prog 18 #[.string s, .slice A (nR s) c, .int .i64 k, .int .i64 10] w (ROPost s k 10 w) := by
  have HT := hide (Below.refl w.heap.size w)
  have hst := stK_n s k
  have hen := enK_n s k
  have hsk := stK_le hk
  have hke := enK_ge hk
  have hln := nR_le s
  have HCL := hide hcl
  clear hcl
  go_enter Tryd.func18, Tryd.ntmps18
  go_wp2_with fail
  refine (rplaceK s k _ _ hs hk rfl).mono ?_; rintro e w1 ⟨rfl, b1⟩
  replace HT := hide (HT.out.trans (b1.mono HT.out.size))
  clear b1
  go_wp2_with fail
  refine (rstartK s k _ hs).mono ?_; rintro e w' ⟨rfl, rfl⟩
  go_wp2_with fail
  refine (rrunesK s (stK s k) _ hs hst).mono ?_; rintro e w2 ⟨rfl, b1⟩
  replace HT := hide (HT.out.trans (b1.mono HT.out.size))
  clear b1
  go_wp2_with fail
  refine (rendK s k _ hs).mono ?_; rintro e w' ⟨rfl, rfl⟩
  go_wp2_with fail
  refine (rrunesK s (enK s k) _ hs hen).mono ?_; rintro e w3 ⟨rfl, b1⟩
  replace HT := hide (HT.out.trans (b1.mono HT.out.size))
  replace HCL := hide (HCL.out.below HT.out)
  clear b1
  obtain ⟨st, hst9⟩ : ∃ x, stK s k = x := ⟨_, rfl⟩
  obtain ⟨en, hen9⟩ : ∃ x, enK s k = x := ⟨_, rfl⟩
  have HST := hide hst9
  have HEN := hide hen9
  rw [hst9] at hst hsk ⊢
  rw [hen9] at hen hke ⊢
  clear hst9 hen9
  have hm : min (k + 1) (nR s) ≤ nR s := by omega
  obtain ⟨m, hm9⟩ : ∃ m, min (k + 1) (nR s) = m := ⟨_, rfl⟩
  have hmi : min ((k : Int) + 1) (nR s : Nat) = (m : Int) := by omega
  have HM := hide hm9
  rw [hm9] at hm
  clear hm9
  go_upto_block 17 with (fail)
  go_cut [2] (fun v wx => v = .int .i64 (skK s isBlank m : Nat) ∧ Hid (Below w.heap.size w wx) ∧ Hid (ClsAt A s wx))
  case first =>
    go_wp2_with fail
    go_loopg [2] (nR s - m) (fun gk t wr => ∃ j : Nat, m ≤ j ∧ j ≤ nR s ∧ t = .int .i64 j ∧ Hid (gk = nR s - j) ∧ Hid (skK s isBlank j = skK s isBlank m) ∧ Hid (Below w.heap.size w wr) ∧ Hid (ClsAt A s wr))
    case atStart => exact ⟨m, Nat.le_refl _, hm, rfl, hide rfl, hide rfl, HT, HCL⟩
    case round =>
      clear HT HCL
      obtain ⟨j, hj0, hj, rfl, HG, HE, HT, HCL⟩ := hrel
      by_cases hlt : j < nR s
      · obtain ⟨g, rfl, hc⟩ := HCL.out j hlt
        obtain ⟨c9, hc9⟩ : ∃ x, cl s j = x := ⟨_, rfl⟩
        have HC9 := hide hc9
        rw [hc9] at hc
        clear hc9
        cases hb : (c9 == 0)
        · have HS := hide (skK_stop (s := s) (p := isBlank) (k := j) (by rw [HC9.out]; exact hb))
          go_wp2
          go_meet
          exact ⟨by rw [← HE.out, HS.out], HT, HCL⟩
        · have HN := hide (skK_go (p := isBlank) hlt (by rw [HC9.out]; exact hb))
          go_wp2
          go_roundg (nR s - (j + 1))
          case measure => have := HG.out; omega
          case rel => exact ⟨j + 1, by omega, by omega, by go_num, hide rfl, hide (by rw [HN.out, HE.out]), HT, HCL⟩
      · obtain rfl : j = nR s := by omega
        go_wp2
        go_meet
        exact ⟨by rw [← HE.out, skK_end (Nat.le_refl _)], HT, HCL⟩
  case rest =>
  clear HT HCL
  obtain ⟨rfl, HT, HCL⟩ := hcut
  clear hmi
  have hsp := skK_spec s isBlank m hm
  obtain ⟨a, ha⟩ : ∃ a, skK s isBlank m = a := ⟨_, rfl⟩
  rw [ha] at hsp
  have HA := hide (show skK s isBlank (min (k + 1) (nR s)) = a by rw [HM.out]; exact ha)
  rw [ha]
  have h1 := hsp.2.1
  have H4 := hide hsp.2.2.2
  clear ha hsp
  by_cases han : a = nR s
  · have HV := hide (show onceK s 10 k = a from tail_same HA.out han)
    obtain ⟨q, hq⟩ : ∃ q, q = a + 1 := ⟨_, rfl⟩
    have i0 : IntKind.i64.wrap ((a : Int) + 1) = (q : Int) := by rw [Go.wrap_small _ (by omega) (by omega)]; omega
    have hl9 : decide ((q : Int) < (nR s : Nat)) = false := by simp; omega
    have hl8 : ¬ q < nR s := by omega
    clear hq han
    go_wp2_with fail
    go_loopg [2] 0 (fun gk t wr => t = .int .i64 a ∧ Hid (Below w.heap.size w wr))
    case atStart => exact ⟨rfl, HT⟩
    case round =>
      clear HT HCL
      obtain ⟨rfl, HT⟩ := hrel
      go_wp2
      go_quiet (fail)
      clear i0
      go_wp2
      go_ret
      exact ro_end (by rw [HV.out]) (below_drewM HT.out _)
  · have hpos : 0 < cl s a := by
      have e1 := H4.out (by omega)
      have e2 := (cl_in (s := s) (k := a) (by omega)).1
      unfold isBlank at e1
      have : cl s a ≠ 0 := by simpa using e1
      omega
    have HT0 := hide (skK_go (s := s) (p := isOther (cl s a)) (k := a) (by omega) (by unfold isOther; simp [hpos]))
    have HPos := hide hpos
    clear hpos
    go_wp2_with fail
    go_loopg [2] (nR s - a) (fun gk t wr => ∃ j : Nat, a ≤ j ∧ j < nR s ∧ t = .int .i64 j ∧ Hid (gk = nR s - j) ∧ Hid (cl s j = cl s a) ∧ Hid (skK s (isOther (cl s a)) (j + 1) = skK s (isOther (cl s a)) a) ∧ Hid (Below w.heap.size w wr) ∧ Hid (ClsAt A s wr))
    case atStart => exact ⟨a, Nat.le_refl _, by omega, rfl, hide rfl, hide rfl, HT0, HT, HCL⟩
    case round =>
      clear HT HCL
      obtain ⟨j, hj0, hj, rfl, HG, HJ, HE, HT, HCL⟩ := hrel
      obtain ⟨q, hq⟩ : ∃ q, q = j + 1 := ⟨_, rfl⟩
      have HQ := hide hq
      have i0 : IntKind.i64.wrap ((j : Int) + 1) = (q : Int) := by rw [Go.wrap_small _ (by omega) (by omega)]; omega
      have i1 : (j : Int) + 1 = (q : Int) := by omega
      have I1 := hide i1
      by_cases hlt : q < nR s
      · have hl9 : decide ((q : Int) < (nR s : Nat)) = true := by simpa using hlt
        obtain ⟨g, rfl, hc⟩ := HCL.out q hlt
        obtain ⟨g2, e2, hd⟩ := HCL.out j hj
        obtain rfl : g = g2 := by injection e2 with e2; injection e2
        obtain ⟨c9, hc9⟩ : ∃ x, cl s q = x := ⟨_, rfl⟩
        obtain ⟨d9, hd9⟩ : ∃ x, cl s j = x := ⟨_, rfl⟩
        have HC9 := hide hc9
        have HD9 := hide hd9
        have i2 : (0 : Int) ≤ (q : Int) := by omega
        have i3 : (q : Int) < (nR s : Int) := by omega
        rw [hc9] at hc
        rw [hd9] at hd
        clear hc9 hd9 e2 hq i1
        cases hb : (c9 == d9)
        · have HS := hide (skK_stop (s := s) (p := isOther (cl s a)) (k := j + 1) (by rw [← HQ.out, HC9.out, ← HJ.out, HD9.out]; unfold isOther; rw [hb]; rfl))
          go_wp2
          go_quiet (fail)
          clear i0
          go_wp2
          go_ret
          exact ro_end (by rw [show onceK s 10 k = j from tail_val HA.out rfl hj0 (by rw [← HE.out, HS.out])]) (below_drewM HT.out _)
        · have hcd : c9 = d9 := by simpa using hb
          have HCD := hide hcd
          have HN := hide (skK_go (s := s) (p := isOther (cl s a)) (k := j + 1) (by have := HQ.out; omega) (by rw [← HQ.out, HC9.out, ← HJ.out, HD9.out, HCD.out]; unfold isOther; rw [← HD9.out, HJ.out]; simp [HPos.out]))
          clear hcd
          go_wp2
          go_quiet (fail)
          have i1 := I1.out
          clear i0
          go_wp2
          go_roundg (nR s - q)
          case measure => have := HG.out; have := HQ.out; omega
          case rel => exact ⟨q, by omega, hlt, rfl, hide rfl, hide (by rw [HC9.out, HCD.out, ← HD9.out, HJ.out]), hide (by rw [← HE.out, ← HN.out, HQ.out]), hide (below_drewM HT.out _), hide (HCL.out.below (below_drewM (Below.refl _ _) _))⟩
      · have hl9 : decide ((q : Int) < (nR s : Nat)) = false := by simpa using hlt
        have HS := hide (skK_end (s := s) (p := isOther (cl s a)) (k := j + 1) (by omega))
        clear hq i1
        go_wp2
        go_quiet (fail)
        clear i0
        go_wp2
        go_ret
        exact ro_end (by rw [show onceK s 10 k = j from tail_val HA.out rfl hj0 (by rw [← HE.out, HS.out])]) (below_drewM HT.out _)

set_option maxHeartbeats 2000000 in
set_option maxRecDepth 100000 in
theorem ronce_else (s : ByteArray) (k : Nat) (which : Int) (A : Option Addr) (c : Nat) (w : World) (hs : s.size ≤ 1048576) (hk : k ≤ nR s) (hcl : ClsAt A s w)  (hw : ∀ i : Nat, i < 14 → which ≠ i) : Calls Tryd.prog 18 #[.string s, .slice A (nR s) c, .int .i64 k, .int .i64 which] w (ROPost s k which w) := by
  have b0 : (which == 0) = false := beq_eq_false_iff_ne.2 (hw 0 (by omega))
  have b1 : (which == 1) = false := beq_eq_false_iff_ne.2 (hw 1 (by omega))
  have b2 : (which == 2) = false := beq_eq_false_iff_ne.2 (hw 2 (by omega))
  have b3 : (which == 3) = false := beq_eq_false_iff_ne.2 (hw 3 (by omega))
  have b4 : (which == 4) = false := beq_eq_false_iff_ne.2 (hw 4 (by omega))
  have b5 : (which == 5) = false := beq_eq_false_iff_ne.2 (hw 5 (by omega))
  have b6 : (which == 6) = false := beq_eq_false_iff_ne.2 (hw 6 (by omega))
  have b7 : (which == 7) = false := beq_eq_false_iff_ne.2 (hw 7 (by omega))
  have b8 : (which == 8) = false := beq_eq_false_iff_ne.2 (hw 8 (by omega))
  have b9 : (which == 9) = false := beq_eq_false_iff_ne.2 (hw 9 (by omega))
  have b10 : (which == 10) = false := beq_eq_false_iff_ne.2 (hw 10 (by omega))
  have b11 : (which == 11) = false := beq_eq_false_iff_ne.2 (hw 11 (by omega))
  have b12 : (which == 12) = false := beq_eq_false_iff_ne.2 (hw 12 (by omega))
  have b13 : (which == 13) = false := beq_eq_false_iff_ne.2 (hw 13 (by omega))
  have HV := hide (show onceK s which k = k by unfold onceK; rw [if_neg (show ¬ which = 0 from hw 0 (by omega)), if_neg (show ¬ which = 1 from hw 1 (by omega)), if_neg (show ¬ which = 2 from hw 2 (by omega)), if_neg (show ¬ which = 3 from hw 3 (by omega)), if_neg (show ¬ which = 4 from hw 4 (by omega)), if_neg (show ¬ which = 5 from hw 5 (by omega)), if_neg (show ¬ which = 6 from hw 6 (by omega)), if_neg (show ¬ which = 7 from hw 7 (by omega)), if_neg (show ¬ which = 8 from hw 8 (by omega)), if_neg (show ¬ which = 9 from hw 9 (by omega)), if_neg (show ¬ which = 10 from hw 10 (by omega)), if_neg (show ¬ which = 11 from hw 11 (by omega)), if_neg (show ¬ which = 12 from hw 12 (by omega)), if_neg (show ¬ which = 13 from hw 13 (by omega))])
  clear hw
  have HT := hide (Below.refl w.heap.size w)
  have hst := stK_n s k
  have hen := enK_n s k
  have hsk := stK_le hk
  have hke := enK_ge hk
  have hln := nR_le s
  have HCL := hide hcl
  clear hcl
  go_enter Tryd.func18, Tryd.ntmps18
  go_wp2_with fail
  refine (rplaceK s k _ _ hs hk rfl).mono ?_; rintro e w1 ⟨rfl, b1⟩
  replace HT := hide (HT.out.trans (b1.mono HT.out.size))
  clear b1
  go_wp2_with fail
  refine (rstartK s k _ hs).mono ?_; rintro e w' ⟨rfl, rfl⟩
  go_wp2_with fail
  refine (rrunesK s (stK s k) _ hs hst).mono ?_; rintro e w2 ⟨rfl, b1⟩
  replace HT := hide (HT.out.trans (b1.mono HT.out.size))
  clear b1
  go_wp2_with fail
  refine (rendK s k _ hs).mono ?_; rintro e w' ⟨rfl, rfl⟩
  go_wp2_with fail
  refine (rrunesK s (enK s k) _ hs hen).mono ?_; rintro e w3 ⟨rfl, b1⟩
  replace HT := hide (HT.out.trans (b1.mono HT.out.size))
  replace HCL := hide (HCL.out.below HT.out)
  clear b1
  obtain ⟨st, hst9⟩ : ∃ x, stK s k = x := ⟨_, rfl⟩
  obtain ⟨en, hen9⟩ : ∃ x, enK s k = x := ⟨_, rfl⟩
  have HST := hide hst9
  have HEN := hide hen9
  rw [hst9] at hst hsk ⊢
  rw [hen9] at hen hke ⊢
  clear hst9 hen9
  go_wp2
  go_ret
  exact ro_end (by rw [HV.out]) HT.out
theorem ronce_any (s : ByteArray) (k : Nat) (which : Int) (A : Option Addr) (c : Nat) (w : World) (hs : s.size ≤ 1048576) (hk : k ≤ nR s) (hcl : ClsAt A s w) : Calls Tryd.prog 18 #[.string s, .slice A (nR s) c, .int .i64 k, .int .i64 which] w (ROPost s k which w) := by
  by_cases h0 : which = 0
  · subst h0; exact ronce_0 s k A c w hs hk hcl
  by_cases h1 : which = 1
  · subst h1; exact ronce_1 s k A c w hs hk hcl
  by_cases h2 : which = 2
  · subst h2; exact ronce_2 s k A c w hs hk hcl
  by_cases h3 : which = 3
  · subst h3; exact ronce_3 s k A c w hs hk hcl
  by_cases h4 : which = 4
  · subst h4; exact ronce_4 s k A c w hs hk hcl
  by_cases h5 : which = 5
  · subst h5; exact ronce_5 s k A c w hs hk hcl
  by_cases h6 : which = 6
  · subst h6; exact ronce_6 s k A c w hs hk hcl
  by_cases h7 : which = 7
  · subst h7; exact ronce_7 s k A c w hs hk hcl
  by_cases h8 : which = 8
  · subst h8; exact ronce_8 s k A c w hs hk hcl
  by_cases h9 : which = 9
  · subst h9; exact ronce_9 s k A c w hs hk hcl
  by_cases h10 : which = 10
  · subst h10; exact ronce_10 s k A c w hs hk hcl
  by_cases h11 : which = 11
  · subst h11; exact ronce_11 s k A c w hs hk hcl
  by_cases h12 : which = 12
  · subst h12; exact ronce_12 s k A c w hs hk hcl
  by_cases h13 : which = 13
  · subst h13; exact ronce_13 s k A c w hs hk hcl
  refine ronce_else s k which A c w hs hk hcl fun i hi => ?_
  have : i = 0 ∨ i = 1 ∨ i = 2 ∨ i = 3 ∨ i = 4 ∨ i = 5 ∨ i = 6 ∨ i = 7 ∨ i = 8 ∨ i = 9 ∨ i = 10 ∨ i = 11 ∨ i = 12 ∨ i = 13 := by omega
  rcases this with rfl | rfl | rfl | rfl | rfl | rfl | rfl | rfl | rfl | rfl | rfl | rfl | rfl | rfl <;> assumption
end Go.Proofs.YtkmcfcpockpadaaDoor
