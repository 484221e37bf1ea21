/- Contracts of the reference's small functions of keys: key, first, anew, arrow. Contract of the reference's arrow. Contracts of the reference's code and Tick. -/
import Derived.Test.YtiilgeinkocanaaDoorKthen
import Derived.Test.YtiilgeinkocanaaDoorAbeg
import Derived.Test.YtiilgeinkocanaaDoorKtick
namespace Go.Proofs.YtiilgeinkocanaaDoor
open Go.RowKit

theorem refKey : 36 ≠ 26 := by decide
theorem ex_grown {R : Nat} {w W W' : World} {row : Option Nat} (h : Ex [R] w W) (hg : W.grownBy W' row) (hr : ∀ k, row = some k → w.heap.size ≤ k) : Ex [R] w W' :=
  ⟨hg.os.trans h.os, hg.tape.trans h.tape, hg.output.trans h.output, Nat.le_trans h.size hg.size, fun k hk hn => (hg.block k (by have := h.size; omega) (fun e => by have := hr k e.symm; omega)).trans (h.block k hk hn)⟩
def rB (s : ByteArray) (b : Bool) (v : Value) : List Value := [.string s, .bool b, v]
/-- What a step of the reference leaves. -/
def RPost (R : Nat) (b : Bool) (v : Value) (r : ByteArray × List Ky) (w : World) (e : Ending) (w' : World) : Prop :=
  ∃ u, e = .returned u ∧ OwnK w' w.heap.size u r.2 ∧ (r.2 = [] → u = .slice none 0 0) ∧ Blk w' R 36 (rB r.1 b v) ∧ Ex [R] w w'
theorem rk_key {R : Nat} {b : Bool} {v : Value} {s : ByteArray} {k : Ky} {w W : World} (hx : Ex [R] w W) (h : Blk W R 36 (rB s b v)) :
    RPost R b v (s, [k]) w (.returned (.slice (some ⟨W.heap.size, 0, none⟩) 1 1)) (W.alloc (.cells #[.int .i64 k.kind, .int .i32 k.r, .string k.text] 26)) :=
  ⟨_, rfl, OwnK.lit hx.size (World.alloc_heap_new W _), (fun e => by cases e), h.alloc _, ex_alloc hx _⟩
theorem rk_wait {R : Nat} {b : Bool} {v : Value} {s t : ByteArray} {w W : World} (hx : Ex [R] w W) (h : Blk W R 36 (rB s b v)) :
    RPost R b v (t, []) w (.returned (.slice none 0 0)) (W.setCell ⟨R, 0, none⟩ (.string t)) :=
  ⟨_, rfl, OwnK.nil _ _, fun _ => rfl, h.set 0 _, ex_set hx 0 _⟩
theorem rk_after {R : Nat} {b : Bool} {v u : Value} {r : ByteArray × List Ky} {w W w' : World} (hx : Ex [R] w W) (h1 : OwnK w' W.heap.size u r.2) (h2 : r.2 = [] → u = .slice none 0 0) (h3 : Blk w' R 36 (rB r.1 b v)) (h4 : Ex [R] W w') : RPost R b v r w (.returned u) w' :=
  ⟨u, rfl, h1.mono hx.size, h2, h3, hx.trans h4 (fun x hx => .inl hx)⟩
theorem rkey_any (k r : Int) (s : ByteArray) (w : World) : Calls Tryd.prog 35 #[.int .i64 k, .int .i32 r, .string s] w fun e w' => e = .returned (.slice (some ⟨w.heap.size, 0, none⟩) 1 1) ∧ w' = w.alloc (.cells #[.int .i64 k, .int .i32 r, .string s] 26) := by
  go_enter Tryd.func35, Tryd.ntmps35
  go_wp2
  go_ret
  exact ⟨rfl, rfl⟩
theorem beg_small {x : Int} (h0 : 0 ≤ x) (h1 : x < 128) : begB (strOfNums [x]) = false := by
  cases hb : begB (strOfNums [x])
  · rfl
  · have := (beg_lt hb).2.2
    have h3 := one_get (x := x) (by omega) (by omega)
    omega
set_option maxRecDepth 100000 in
set_option maxHeartbeats 4000000 in
theorem rfirst_any (R : Nat) (s : ByteArray) (b : Bool) (v : Value) (x : Int) (w : World) (h0 : 0 ≤ x) (h1 : x ≤ 255) (h : Blk w R 36 (rB s b v)) :
    Calls Tryd.prog 32 #[.pointer (some ⟨R, 0, none⟩), .int .u8 x] w (RPost R b v (firstK x) w) := by
  have HD := hide (h.alloc (.cells #[.int .u8 x] 5))
  have r0 := HD.out.cell (i := 0) rfl
  have rf := HD.out.frozen 0
  have hcv := fun n hn => conv_atK (w := w) (W := w.alloc (.cells #[.int .u8 x] 5)) x n rfl hn
  have HX := hide (ex_set (ex_alloc (Ex.refl [R] w) (.cells #[.int .u8 x] 5)) 0 (.string ⟨#[]⟩))
  have HD1 := hide (show Blk ((w.alloc (.cells #[.int .u8 x] 5)).setCell ⟨R, 0, none⟩ (.string ⟨#[]⟩)) R 36 (rB ⟨#[]⟩ b v) from HD.out.set 0 _)
  have HBg := hide (fun W => rbegins_any (strOfNums [x]) W (by rw [one_size]; omega))
  have r1 := HD1.out.cell (i := 0) rfl
  have rf1 := HD1.out.frozen 0
  clear h
  by_cases c27 : x = 27
  · subst c27
    have HR := hide (show firstK 27 = (strOfNums [27], []) by decide +kernel)
    go_enter Tryd.func32, Tryd.ntmps32
    go_wp2_with fail
    go_ret
    rw [HR.out]
    exact rk_wait HX.out HD1.out
  by_cases hlo : x < 128
  case neg =>
    have g1 : 128 ≤ x := by omega
    cases hb : begB (strOfNums [x])
    case true =>
      have HR := hide (show firstK x = (strOfNums [x], []) by unfold firstK; rw [if_pos (.inr hb)])
      rw [hb] at HBg
      clear hb
      go_enter Tryd.func32, Tryd.ntmps32
      go_wp2_with fail
      refine (HBg.out _).mono ?_
      rintro e w1 ⟨rfl, hb1⟩
      have HD2 := hide (HD1.out.below hb1)
      have HX1 := hide (ex_below HX.out hb1)
      clear hb1
      have r2 := HD2.out.cell (i := 0) rfl
      have rf2 := HD2.out.frozen 0
      go_wp2_with fail
      go_ret
      rw [HR.out]
      exact rk_wait HX1.out HD2.out
    case false =>
      have HR := hide (show firstK x = (⟨#[]⟩, [⟨0, 0, strOfNums [x]⟩]) by
        unfold firstK
        rw [if_neg (by rw [hb]; simp; omega), if_neg (by omega), if_neg (by omega), if_neg (by omega), if_neg (by omega), if_neg (by omega), if_neg (by omega)]; rfl)
      rw [hb] at HBg
      have a1 : (x == 13) = false := by simp; omega
      have a2 : (x == 10) = false := by simp; omega
      have a3 : (x == 9) = false := by simp; omega
      have a4 : (x == 8) = false := by simp; omega
      have a5 : (x == 127) = false := by simp; omega
      have a6 : (x == 0) = false := by simp; omega
      have a7 : ¬ x < 32 := by omega
      have a8 : ¬ x < 127 := by omega
      have a9 : 28 ≤ x := by omega
      clear hb
      go_enter Tryd.func32, Tryd.ntmps32
      go_wp2_with fail
      refine (HBg.out _).mono ?_
      rintro e w1 ⟨rfl, hb1⟩
      have HD2 := hide (HD1.out.below hb1)
      have HX1 := hide (ex_below HX.out hb1)
      clear hb1
      go_wp2_with fail
      refine (rkey_any 0 0 (strOfNums [x]) _).mono ?_
      rintro e w2 ⟨rfl, rfl⟩
      go_wp2_with fail
      go_ret
      rw [HR.out]
      exact rk_key (k := ⟨0, 0, (strOfNums [x])⟩) HX1.out HD2.out
  have hg : ¬ 128 ≤ x := by omega
  have HBS := hide (beg_small h0 hlo)
  clear HBg
  by_cases c13 : x = 13
  · subst c13
    have HR := hide (show firstK 13 = (⟨#[]⟩, [⟨2, 0, ⟨#[]⟩⟩]) by decide +kernel)
    go_enter Tryd.func32, Tryd.ntmps32
    go_wp2_with fail
    obtain ⟨W1, hW1⟩ : ∃ W1, (w.alloc (.cells #[.int .u8 13] 5)).setCell ⟨R, 0, none⟩ (.string ⟨#[]⟩) = W1 := ⟨_, rfl⟩
    rw [hW1] at HX HD1 ⊢
    clear hW1 r1 rf1
    refine (rkey_any 2 0 ⟨#[]⟩ _).mono ?_
    rintro e w2 ⟨rfl, rfl⟩
    go_wp2_with fail
    go_ret
    rw [HR.out]
    exact rk_key (k := ⟨2, 0, ⟨#[]⟩⟩) HX.out HD1.out
  by_cases c10 : x = 10
  · subst c10
    have HR := hide (show firstK 10 = (⟨#[]⟩, [⟨2, 0, ⟨#[]⟩⟩]) by decide +kernel)
    go_enter Tryd.func32, Tryd.ntmps32
    go_wp2_with fail
    obtain ⟨W1, hW1⟩ : ∃ W1, (w.alloc (.cells #[.int .u8 10] 5)).setCell ⟨R, 0, none⟩ (.string ⟨#[]⟩) = W1 := ⟨_, rfl⟩
    rw [hW1] at HX HD1 ⊢
    clear hW1 r1 rf1
    refine (rkey_any 2 0 ⟨#[]⟩ _).mono ?_
    rintro e w2 ⟨rfl, rfl⟩
    go_wp2_with fail
    go_ret
    rw [HR.out]
    exact rk_key (k := ⟨2, 0, ⟨#[]⟩⟩) HX.out HD1.out
  by_cases c9 : x = 9
  · subst c9
    have HR := hide (show firstK 9 = (⟨#[]⟩, [⟨3, 0, ⟨#[]⟩⟩]) by decide +kernel)
    go_enter Tryd.func32, Tryd.ntmps32
    go_wp2_with fail
    obtain ⟨W1, hW1⟩ : ∃ W1, (w.alloc (.cells #[.int .u8 9] 5)).setCell ⟨R, 0, none⟩ (.string ⟨#[]⟩) = W1 := ⟨_, rfl⟩
    rw [hW1] at HX HD1 ⊢
    clear hW1 r1 rf1
    refine (rkey_any 3 0 ⟨#[]⟩ _).mono ?_
    rintro e w2 ⟨rfl, rfl⟩
    go_wp2_with fail
    go_ret
    rw [HR.out]
    exact rk_key (k := ⟨3, 0, ⟨#[]⟩⟩) HX.out HD1.out
  by_cases c8 : x = 8
  · subst c8
    have HR := hide (show firstK 8 = (⟨#[]⟩, [⟨4, 0, ⟨#[]⟩⟩]) by decide +kernel)
    go_enter Tryd.func32, Tryd.ntmps32
    go_wp2_with fail
    obtain ⟨W1, hW1⟩ : ∃ W1, (w.alloc (.cells #[.int .u8 8] 5)).setCell ⟨R, 0, none⟩ (.string ⟨#[]⟩) = W1 := ⟨_, rfl⟩
    rw [hW1] at HX HD1 ⊢
    clear hW1 r1 rf1
    refine (rkey_any 4 0 ⟨#[]⟩ _).mono ?_
    rintro e w2 ⟨rfl, rfl⟩
    go_wp2_with fail
    go_ret
    rw [HR.out]
    exact rk_key (k := ⟨4, 0, ⟨#[]⟩⟩) HX.out HD1.out
  by_cases c127 : x = 127
  · subst c127
    have HR := hide (show firstK 127 = (⟨#[]⟩, [⟨4, 0, ⟨#[]⟩⟩]) by decide +kernel)
    go_enter Tryd.func32, Tryd.ntmps32
    go_wp2_with fail
    obtain ⟨W1, hW1⟩ : ∃ W1, (w.alloc (.cells #[.int .u8 127] 5)).setCell ⟨R, 0, none⟩ (.string ⟨#[]⟩) = W1 := ⟨_, rfl⟩
    rw [hW1] at HX HD1 ⊢
    clear hW1 r1 rf1
    refine (rkey_any 4 0 ⟨#[]⟩ _).mono ?_
    rintro e w2 ⟨rfl, rfl⟩
    go_wp2_with fail
    go_ret
    rw [HR.out]
    exact rk_key (k := ⟨4, 0, ⟨#[]⟩⟩) HX.out HD1.out
  by_cases c0 : x = 0
  · subst c0
    have HR := hide (show firstK 0 = (⟨#[]⟩, [⟨6, 64, ⟨#[]⟩⟩]) by decide +kernel)
    go_enter Tryd.func32, Tryd.ntmps32
    go_wp2_with fail
    obtain ⟨W1, hW1⟩ : ∃ W1, (w.alloc (.cells #[.int .u8 0] 5)).setCell ⟨R, 0, none⟩ (.string ⟨#[]⟩) = W1 := ⟨_, rfl⟩
    rw [hW1] at HX HD1 ⊢
    clear hW1 r1 rf1
    refine (rkey_any 6 64 ⟨#[]⟩ _).mono ?_
    rintro e w2 ⟨rfl, rfl⟩
    go_wp2_with fail
    go_ret
    rw [HR.out]
    exact rk_key (k := ⟨6, 64, ⟨#[]⟩⟩) HX.out HD1.out
  have b27 : (x == 27) = false := by simpa using c27
  have b13 : (x == 13) = false := by simpa using c13
  have b10 : (x == 10) = false := by simpa using c10
  have b9 : (x == 9) = false := by simpa using c9
  have b8 : (x == 8) = false := by simpa using c8
  have b127 : (x == 127) = false := by simpa using c127
  have b0 : (x == 0) = false := by simpa using c0
  have HR1 := hide (show firstK x = if 28 ≤ x ∧ x < 32 then (⟨#[]⟩, kLet 6 (x + 64)) else if x < 32 then (⟨#[]⟩, kLet 6 (x + 96)) else if x < 128 then (⟨#[]⟩, kLet 1 x) else (⟨#[]⟩, kBad (strOfNums [x])) by
    unfold firstK
    rw [if_neg (by rw [HBS.out]; simp; omega), if_neg (by omega), if_neg (by omega), if_neg (by omega)]
    by_cases h : 28 ≤ x ∧ x < 32
    · rw [if_pos (.inr h), if_pos h]
    · rw [if_neg (by omega), if_neg h])
  have c7 : x ≠ 127 := c127
  clear c27 c13 c10 c9 c8 c0 c127
  by_cases d1 : 28 ≤ x ∧ x < 32
  · have HR := hide (show firstK x = (⟨#[]⟩, kLet 6 (x + 64)) by rw [HR1.out, if_pos d1])
    obtain ⟨d2, d3⟩ := d1
    clear c7
    go_enter Tryd.func32, Tryd.ntmps32
    go_wp2_with fail
    obtain ⟨W1, hW1⟩ : ∃ W1, (w.alloc (.cells #[.int .u8 x] 5)).setCell ⟨R, 0, none⟩ (.string ⟨#[]⟩) = W1 := ⟨_, rfl⟩
    rw [hW1] at HX HD1 ⊢
    clear hW1 r1 rf1
    refine (rkey_any 6 (x + 64) ⟨#[]⟩ _).mono ?_
    rintro e w2 ⟨rfl, rfl⟩
    go_wp2_with fail
    go_ret
    rw [HR.out]
    exact rk_key (k := ⟨6, (x + 64), ⟨#[]⟩⟩) HX.out HD1.out
  by_cases d2 : x < 32
  · have HR := hide (show firstK x = (⟨#[]⟩, kLet 6 (x + 96)) by rw [HR1.out, if_neg d1, if_pos d2])
    have d3 : ¬ 28 ≤ x := by omega
    clear d1 c7
    go_enter Tryd.func32, Tryd.ntmps32
    go_wp2_with fail
    obtain ⟨W1, hW1⟩ : ∃ W1, (w.alloc (.cells #[.int .u8 x] 5)).setCell ⟨R, 0, none⟩ (.string ⟨#[]⟩) = W1 := ⟨_, rfl⟩
    rw [hW1] at HX HD1 ⊢
    clear hW1 r1 rf1
    refine (rkey_any 6 (x + 96) ⟨#[]⟩ _).mono ?_
    rintro e w2 ⟨rfl, rfl⟩
    go_wp2_with fail
    go_ret
    rw [HR.out]
    exact rk_key (k := ⟨6, (x + 96), ⟨#[]⟩⟩) HX.out HD1.out
  have HR := hide (show firstK x = (⟨#[]⟩, kLet 1 x) by rw [HR1.out, if_neg d1, if_neg d2, if_pos hlo])
  have d3 : x < 127 := by omega
  clear d1 c7 hlo
  go_enter Tryd.func32, Tryd.ntmps32
  go_wp2_with fail
  obtain ⟨W1, hW1⟩ : ∃ W1, (w.alloc (.cells #[.int .u8 x] 5)).setCell ⟨R, 0, none⟩ (.string ⟨#[]⟩) = W1 := ⟨_, rfl⟩
  rw [hW1] at HX HD1 ⊢
  clear hW1 r1 rf1
  refine (rkey_any 1 x ⟨#[]⟩ _).mono ?_
  rintro e w2 ⟨rfl, rfl⟩
  go_wp2_with fail
  go_ret
  rw [HR.out]
  exact rk_key (k := ⟨1, x, ⟨#[]⟩⟩) HX.out HD1.out
set_option maxRecDepth 100000 in
set_option maxHeartbeats 1000000 in
theorem ranew_any (R : Nat) (s bad : ByteArray) (b : Bool) (v : Value) (x : Int) (w : World) (h0 : 0 ≤ x) (h1 : x ≤ 255) (h : Blk w R 36 (rB s b v)) :
    Calls Tryd.prog 37 #[.pointer (some ⟨R, 0, none⟩), .string bad, .int .u8 x] w (RPost R b v (thenK (kBad bad) x) w) := by
  have HD := hide h
  have HF := hide (show (firstK x).2.length ≤ 1 from first_keys x)
  clear h
  go_enter Tryd.func37, Tryd.ntmps37
  go_wp2_with fail
  refine (rkey_any 0 0 bad _).mono ?_
  rintro e w1 ⟨rfl, rfl⟩
  have HD1 := hide (HD.out.alloc (.cells #[.int .i64 0, .int .i32 0, .string bad] 26))
  have HX1 := hide (ex_alloc (Ex.refl [R] w) (.cells #[.int .i64 0, .int .i32 0, .string bad] 26))
  have HO1 := hide (OwnK.lit (W := w.alloc (.cells #[.int .i64 0, .int .i32 0, .string bad] 26)) (k := ⟨0, 0, bad⟩) (Nat.le_refl _) (World.alloc_heap_new _ _))
  obtain ⟨W1, hW1⟩ : ∃ W1, w.alloc (.cells #[.int .i64 0, .int .i32 0, .string bad] 26) = W1 := ⟨_, rfl⟩
  rw [hW1] at HD1 HX1 HO1 ⊢
  clear hW1
  go_wp2_with fail
  refine (rfirst_any R s b v x _ h0 h1 HD1.out).mono ?_
  rintro e w2 ⟨u, rfl, ho, hn, hD2, hx2⟩
  have HK2 := hide (ho.keys hn)
  have HO2 := hide (HO1.out.ex HD1.out refKey hx2)
  have HD2 := hide hD2
  have HX2 := hide (HX1.out.trans hx2 (fun x hx => .inl hx))
  have hz := HX2.out.size
  clear ho hn hD2 hx2
  go_wp2_with (at_builtin; refine wpList_keys w2 rfl (.tmp 8) (.tmp 11) rfl w.heap.size hz _ _ _ _ rfl rfl HO2.out HK2.out (by have := HF.out; simp; omega) ?_; intro v2 w3 hown hg hb2 hnil; have HO3 := hide hown; have HD3 := hide (HD2.out.keep hg (HO2.out.ne HD2.out refKey)); have HG3 := hide (ex_grown HX2.out hg (own_ge HO2.out)); have HNIL := hide hnil; clear hown hg hb2 hnil)
  go_ret
  exact ⟨_, rfl, HO3.out, (fun e => by cases e), HD3.out, HG3.out⟩
end Go.Proofs.YtiilgeinkocanaaDoor
namespace Go.Proofs.YtiilgeinkocanaaDoor
open Go.RowKit

def arS (k : Nat) : ByteArray := ⟨#[([65, 66, 67, 68, 72, 70] : List UInt8).getD k 0]⟩
def arV (k : Nat) : Int := ([8, 9, 11, 10, 12, 13] : List Int).getD k 0
def arrowS (s : ByteArray) : Int := if s = arS 0 then 8 else if s = arS 1 then 9 else if s = arS 2 then 11 else if s = arS 3 then 10 else if s = arS 4 then 12 else if s = arS 5 then 13 else 0
theorem arrowS_hit (s : ByteArray) (k : Nat) (hk : k < 6) (h : s = arS k) : arrowS s = arV k := by
  subst h
  match k, hk with
  | 0, _ => decide +kernel
  | 1, _ => decide +kernel
  | 2, _ => decide +kernel
  | 3, _ => decide +kernel
  | 4, _ => decide +kernel
  | 5, _ => decide +kernel
theorem arrowS_none (s : ByteArray) (h : ∀ j, j < 6 → s ≠ arS j) : arrowS s = 0 := by
  unfold arrowS
  rw [if_neg (h 0 (by decide)), if_neg (h 1 (by decide)), if_neg (h 2 (by decide)), if_neg (h 3 (by decide)), if_neg (h 4 (by decide)), if_neg (h 5 (by decide))]
theorem arrowS_one (x : Int) (h0 : 0 ≤ x) (h1 : x ≤ 255) : arrowS (strOfNums [x]) = arrowK x := by
  obtain ⟨n, rfl⟩ : ∃ n : Nat, x = (n : Int) := ⟨x.toNat, by omega⟩
  have hn : n < 256 := by omega
  have key : ∀ n : Fin 256, arrowS (strOfNums [((n.val : Nat) : Int)]) = arrowK ((n.val : Nat) : Int) := by decide +kernel
  exact key ⟨n, hn⟩
theorem arrowS_long (s : ByteArray) (h : s.size ≠ 1) : arrowS s = 0 := arrowS_none s (fun j _ e => h (by rw [e]; rfl))
theorem str_eqR (a b : ByteArray) : (a.toList == b.toList) = decide (a = b) := by
  rw [ByteArray.toList_eq, ByteArray.toList_eq, Bool.eq_iff_iff, beq_iff_eq, decide_eq_true_eq]
  exact ⟨fun h => ByteArray.ext (Array.toList_inj.1 h), fun h => by rw [h]⟩
theorem ret_arr {a b : Int} (h : a = b) : Ending.returned (.int .i64 a) = .returned (.int .i64 b) := by rw [h]
set_option maxRecDepth 100000 in
set_option maxHeartbeats 1000000 in
theorem rarrow_any (s : ByteArray) (w : World) : Calls Tryd.prog 36 #[.string s] w fun e w' => e = .returned (.int .i64 (arrowS s)) ∧ Below w.heap.size w w' := by
  go_enter Tryd.func36, Tryd.ntmps36
  go_wp2
  go_loop [5] (fun i => ∃ k : Nat, i = .int .i64 k ∧ k ≤ 6 ∧ Hid (∀ j, j < k → s ≠ arS j)) (fun i => 6 - (intOf i).toNat)
  case atStart => exact ⟨0, rfl, by omega, hide (fun j hj => absurd hj (Nat.not_lt_zero j))⟩
  case round =>
    obtain ⟨k, rfl, hk, HN⟩ := hrel
    obtain ⟨W, hW⟩ : ∃ W, (w.alloc (.cells #[.string ⟨#[65]⟩, .string ⟨#[66]⟩, .string ⟨#[67]⟩, .string ⟨#[68]⟩, .string ⟨#[72]⟩, .string ⟨#[70]⟩] 75)).alloc (.cells #[.int .i64 8, .int .i64 9, .int .i64 11, .int .i64 10, .int .i64 12, .int .i64 13] 76) = W := ⟨_, rfl⟩
    have HB := hide (show Below w.heap.size w W by rw [← hW]; exact ((Below.refl _ _).alloc (Nat.le_refl _) _).alloc (by simp) _)
    by_cases hlt : k < 6
    · obtain ⟨u, hu⟩ : ∃ u, arS k = u := ⟨_, rfl⟩
      obtain ⟨z, hz⟩ : ∃ z, arV k = z := ⟨_, rfl⟩
      have cA : W.cell? ⟨w.heap.size, k, none⟩ = some (.string u) := by
        rw [← hW, ← hu]
        have hb := (Blk.new w 75 [.string ⟨#[65]⟩, .string ⟨#[66]⟩, .string ⟨#[67]⟩, .string ⟨#[68]⟩, .string ⟨#[72]⟩, .string ⟨#[70]⟩]).alloc (.cells #[.int .i64 8, .int .i64 9, .int .i64 11, .int .i64 10, .int .i64 12, .int .i64 13] 76)
        refine hb.cell ?_
        match k, hlt with
        | 0, _ => rfl
        | 1, _ => rfl
        | 2, _ => rfl
        | 3, _ => rfl
        | 4, _ => rfl
        | 5, _ => rfl
      have cB : W.cell? ⟨w.heap.size + 1, k, none⟩ = some (.int .i64 z) := by
        rw [← hW, ← hz]
        have hb := Blk.new (w.alloc (.cells #[.string ⟨#[65]⟩, .string ⟨#[66]⟩, .string ⟨#[67]⟩, .string ⟨#[68]⟩, .string ⟨#[72]⟩, .string ⟨#[70]⟩] 75)) 76 [.int .i64 8, .int .i64 9, .int .i64 11, .int .i64 10, .int .i64 12, .int .i64 13]
        rw [World.size_alloc] at hb
        refine hb.cell ?_
        match k, hlt with
        | 0, _ => rfl
        | 1, _ => rfl
        | 2, _ => rfl
        | 3, _ => rfl
        | 4, _ => rfl
        | 5, _ => rfl
      rw [hW]
      clear hW
      by_cases hs : s = u
      · have HR := hide (show arrowS s = z by rw [← hz]; exact arrowS_hit s k hlt (by rw [hu]; exact hs))
        have he : (s.toList == u.toList) = true := by rw [str_eqR, decide_eq_true hs]
        clear hs hu hz
        go_wp2
        go_ret
        exact ⟨ret_arr HR.out.symm, HB.out⟩
      · have HN2 := hide (show ∀ j, j < k + 1 → s ≠ arS j from fun j hj => by
          by_cases e : j = k
          · rw [e, hu]; exact hs
          · exact HN.out j (by omega))
        have he : (s.toList == u.toList) = false := by rw [str_eqR, decide_eq_false hs]
        clear hs hu hz
        go_wp2
        go_round
        case rel => exact ⟨k + 1, by go_num, by omega, HN2⟩
        case measure => simp [intOf]; omega
    · have HR := hide (arrowS_none s (fun j hj => HN.out j (by omega)))
      rw [hW]
      clear hW
      go_wp2
      go_ret
      exact ⟨ret_arr HR.out.symm, HB.out⟩
end Go.Proofs.YtiilgeinkocanaaDoor
namespace Go.Proofs.YtiilgeinkocanaaDoor
open Go.RowKit

set_option maxRecDepth 100000 in
set_option maxHeartbeats 4000000 in
theorem rcode_any (R : Nat) (s t : ByteArray) (alt b : Bool) (v : Value) (x : Int) (w : World) (h0 : 0 ≤ x) (h1 : x ≤ 255) (hz : t.size ≤ 900000) (hz2 : s.size ≤ 900000) (h : Blk w R 36 (rB s b v)) :
    Calls Tryd.prog 33 #[.pointer (some ⟨R, 0, none⟩), .string t, .bool alt, .int .u8 x] w (RPost R b v (codeK alt s t x) w) := by
  obtain ⟨u, hu⟩ : ∃ u, t ++ strOfNums [x] = u := ⟨_, rfl⟩
  have huz : u.size = t.size + 1 := by rw [← hu, str_size]
  have hA := (Below.refl w.heap.size w).alloc (Nat.le_refl _) (.cells #[.int .u8 x] 5)
  have r0 := h.cell (i := 0) rfl
  have HD1 := hide (h.alloc (.cells #[.int .u8 x] 5))
  have HX1 := hide (Ex.of_below hA [R])
  have hcv := fun n hn => conv_atK (w := w) (W := w.alloc (.cells #[.int .u8 x] 5)) x n rfl hn
  have hcv2 := fun W => conv_1 W x
  have hsz1 : (strOfNums [x]).size = 1 := rfl
  have HU := hide hu
  have HN := hide (fun W b hb => rnext_0 u W (by omega) (by omega) b hb)
  have HBg := hide (fun W => rbegins_any u W (by omega))
  have HC := hide (show codeK alt s t x = if wholeB u = true then (⟨#[]⟩, kLet (if alt = true then 7 else 1) (Utf8.decode u 0).1) else if begB u = true then (s ++ strOfNums [x], []) else thenK (kBad s) x by unfold codeK; rw [hu])
  clear h hA huz hu
  cases hw : wholeB u
  case true =>
    have HR := hide (show codeK alt s t x = (⟨#[]⟩, kLet (if alt = true then 7 else 1) (Utf8.decode u 0).1) by rw [HC.out, if_pos hw])
    obtain ⟨hd1, hd2⟩ := whole_yes hw
    have HN1 := hide (fun W => HN.out W true hd1)
    clear hw hd1
    cases alt
    all_goals
      go_enter Tryd.func33, Tryd.ntmps33
      go_wp2_with fail
      rw [HU.out]
      refine (HN1.out _).mono ?_
      rintro e w2 ⟨rfl, hb2⟩
      have HD2 := hide (HD1.out.below hb2)
      have HX2 := hide (ex_set (ex_below HX1.out hb2) 0 (.string ⟨#[]⟩))
      have r2 := HD2.out.cell (i := 0) rfl
      have rf2 := HD2.out.frozen 0
      have HD3 := hide (show Blk (w2.setCell ⟨R, 0, none⟩ (.string ⟨#[]⟩)) R 36 (rB ⟨#[]⟩ b v) from HD2.out.set 0 _)
      clear hb2
      obtain ⟨W2, hW2⟩ : ∃ W2, w2.setCell ⟨R, 0, none⟩ (.string ⟨#[]⟩) = W2 := ⟨_, rfl⟩
      have HW2 := hide hW2
      rw [hW2] at HD3 HX2
      clear hW2
      go_wp2_with fail
      rw [HW2.out]
    · refine (rkey_any 1 _ _ _).mono ?_
      rintro e w3 ⟨rfl, rfl⟩
      go_wp2_with fail
      go_ret
      rw [HR.out]
      exact rk_key (k := ⟨1, (Utf8.decode u 0).1, ⟨#[]⟩⟩) HX2.out HD3.out
    · refine (rkey_any 7 _ _ _).mono ?_
      rintro e w3 ⟨rfl, rfl⟩
      go_wp2_with fail
      go_ret
      rw [HR.out]
      exact rk_key (k := ⟨7, (Utf8.decode u 0).1, ⟨#[]⟩⟩) HX2.out HD3.out
  have HW := hide hw
  cases hbg : begB u
  case true =>
    have HR := hide (show codeK alt s t x = (s ++ strOfNums [x], []) by rw [HC.out, if_neg (by rw [hw]; simp), if_pos hbg])
    have HB1 := hide (fun W => by have := HBg.out W; rw [hbg] at this; exact this)
    rcases whole_two hw with hd1 | ⟨hd1, hd2⟩
    all_goals
      have HN1 := hide (fun W => HN.out W _ hd1)
      clear hd1
      go_enter Tryd.func33, Tryd.ntmps33
      go_wp2_with fail
      rw [HU.out]
      refine (HN1.out _).mono ?_
      rintro e w2 ⟨rfl, hb2⟩
      have HD2 := hide (HD1.out.below hb2)
      have HX2 := hide (ex_below HX1.out hb2)
      clear hb2
      go_wp2_with fail
      refine (HB1.out _).mono ?_
      rintro e w3 ⟨rfl, hb3⟩
      have HD3 := hide ((HD2.out.below hb3).alloc (.cells #[.int .u8 x] 5))
      have HX3 := hide (ex_alloc (ex_below HX2.out hb3) (.cells #[.int .u8 x] 5))
      have r3 := HD3.out.cell (i := 0) rfl
      have rf3 := HD3.out.frozen 0
      clear hb3
      go_wp2_with fail
      go_ret
      rw [HR.out]
      exact rk_wait HX3.out HD3.out
  · have HR := hide (show codeK alt s t x = thenK (kBad s) x by rw [HC.out, if_neg (by rw [hw]; simp), if_neg (by rw [hbg]; simp)])
    have HB1 := hide (fun W => by have := HBg.out W; rw [hbg] at this; exact this)
    rcases whole_two hw with hd1 | ⟨hd1, hd2⟩
    all_goals
      have HN1 := hide (fun W => HN.out W _ hd1)
      clear hd1
      go_enter Tryd.func33, Tryd.ntmps33
      go_wp2_with fail
      rw [HU.out]
      refine (HN1.out _).mono ?_
      rintro e w2 ⟨rfl, hb2⟩
      have HD2 := hide (HD1.out.below hb2)
      have HX2 := hide (ex_below HX1.out hb2)
      clear hb2
      go_wp2_with fail
      refine (HB1.out _).mono ?_
      rintro e w3 ⟨rfl, hb3⟩
      have HD3 := hide (HD2.out.below hb3)
      have HX3 := hide (ex_below HX2.out hb3)
      clear hb3
      go_wp2_with fail
      refine (ranew_any R s s b v x _ h0 h1 HD3.out).mono ?_
      rintro e w4 ⟨u4, rfl, h5, h6, h7, h8⟩
      have H5 := hide (rk_after HX3.out h5 h6 h7 h8)
      clear h5 h6 h7 h8
      go_wp2_with fail
      go_ret
      rw [HR.out]
      exact H5.out
/-- What the reference's decoder holds. -/
def RAt (W : World) (R : Nat) (G : List Nat) (st : KS) : Prop :=
  (st.1 = false ∧ G = [R] ∧ Blk W R 36 (rB st.2 false (.slice none 0 0))) ∨
  (st.1 = true ∧ ∃ v, (G = [R] ∧ v = .slice none 0 0 ∧ st.2.size = 0 ∨ ∃ g n c, G = [R, g] ∧ v = .slice (some ⟨g, 0, none⟩) n c) ∧ Blk W R 36 (rB ⟨#[]⟩ true v) ∧ W.ownsRow 0 5 1 v st.2.size (byteV st.2))
/-- What any step of the reference leaves. -/
def RFPost (R : Nat) (G : List Nat) (p : KS × List Ky) (w : World) (e : Ending) (w' : World) : Prop :=
  ∃ v, e = .returned v ∧ OwnK w' w.heap.size v p.2 ∧ (p.2 = [] → v = .slice none 0 0) ∧ (∃ G', RAt w' R G' p.1 ∧ ∀ k ∈ G', k ∈ G ∨ w.heap.size ≤ k) ∧ Ex [R] w w'
theorem rf_of {R : Nat} {r : ByteArray × List Ky} {w w' : World} {e : Ending} (h : RPost R false (.slice none 0 0) r w e w') : RFPost R [R] (stays r) w e w' := by
  obtain ⟨v, he, h1, h2, h3, h5⟩ := h
  exact ⟨v, he, h1, h2, ⟨[R], .inl ⟨rfl, rfl, h3⟩, fun k hk => .inl hk⟩, h5⟩
set_option maxRecDepth 100000 in
set_option maxHeartbeats 1000000 in
theorem rtick_paste (R : Nat) (s : ByteArray) (v : Value) (w : World) (h : Blk w R 36 (rB s true v)) : Calls Tryd.prog 19 #[.pointer (some ⟨R, 0, none⟩)] w fun e w' => e = .returned (.slice none 0 0) ∧ w = w' := by
  have r0 := h.cell (i := 0) rfl
  have r1 := h.cell (i := 1) rfl
  clear h
  go_enter Tryd.func19, Tryd.ntmps19
  go_wp2_with fail
  go_ret
  exact ⟨rfl, rfl⟩
set_option maxRecDepth 100000 in
set_option maxHeartbeats 1000000 in
theorem rtick_str (R : Nat) (s : ByteArray) (w : World) (h : Blk w R 36 (rB s false (.slice none 0 0))) : Calls Tryd.prog 19 #[.pointer (some ⟨R, 0, none⟩)] w (RFPost R [R] (tickK (false, s)) w) := by
  have r0 := h.cell (i := 0) rfl
  have r1 := h.cell (i := 1) rfl
  have rf := h.frozen 0
  have HD := hide h
  have HX := hide (Ex.set w R 0 (.string ⟨#[]⟩))
  have HD2 := hide (show Blk (w.setCell ⟨R, 0, none⟩ (.string ⟨#[]⟩)) R 36 (rB ⟨#[]⟩ false (.slice none 0 0)) from h.set 0 _)
  clear h
  by_cases hz : s.size = 0
  · have hs := size0 hz
    subst hs
    go_enter Tryd.func19, Tryd.ntmps19
    go_wp2_with fail
    go_ret
    exact ⟨_, rfl, OwnK.nil _ _, fun _ => rfl, ⟨[R], .inl ⟨rfl, rfl, HD.out⟩, fun k hk => .inl hk⟩, Ex.refl _ _⟩
  have e1 : s.toList.isEmpty = false := empty_tl false (by simpa using hz)
  by_cases hs : s = escS
  · have e2 : (s.toList == [27]) = true := str_eqK (decide_eq_true hs)
    have HR := hide (show tickK (false, s) = stays (⟨#[]⟩, kOne 5) by unfold tickK; rw [if_neg (by simp), if_neg hz, if_pos hs]; rfl)
    clear hs hz
    go_enter Tryd.func19, Tryd.ntmps19
    obtain ⟨W2, hW2⟩ : ∃ W2, w.setCell ⟨R, 0, none⟩ (.string ⟨#[]⟩) = W2 := ⟨_, rfl⟩
    have HW2 := hide hW2
    rw [hW2] at HD2 HX
    clear hW2
    go_wp2_with fail
    rw [HW2.out]
    refine (rkey_any 5 0 ⟨#[]⟩ _).mono ?_
    rintro e w3 ⟨rfl, rfl⟩
    go_wp2_with fail
    go_ret
    rw [HR.out]
    exact rf_of (rk_key (k := ⟨5, 0, ⟨#[]⟩⟩) HX.out HD2.out)
  · have e2 : (s.toList == [27]) = false := str_eqK (decide_eq_false hs)
    have HR := hide (show tickK (false, s) = stays (⟨#[]⟩, kBad s) by unfold tickK; rw [if_neg (by simp), if_neg hz, if_neg hs]; rfl)
    clear hs hz
    go_enter Tryd.func19, Tryd.ntmps19
    obtain ⟨W2, hW2⟩ : ∃ W2, w.setCell ⟨R, 0, none⟩ (.string ⟨#[]⟩) = W2 := ⟨_, rfl⟩
    have HW2 := hide hW2
    rw [hW2] at HD2 HX
    clear hW2
    go_wp2_with fail
    rw [HW2.out]
    refine (rkey_any 0 0 s _).mono ?_
    rintro e w3 ⟨rfl, rfl⟩
    go_wp2_with fail
    go_ret
    rw [HR.out]
    exact rf_of (rk_key (k := ⟨0, 0, s⟩) HX.out HD2.out)
/-- Contract of the reference's Tick. -/
theorem rtick_any (R : Nat) (G : List Nat) (st : KS) (w : World) (h : RAt w R G st) : Calls Tryd.prog 19 #[.pointer (some ⟨R, 0, none⟩)] w (RFPost R G (tickK st) w) := by
  obtain ⟨b, s⟩ := st
  have h' := h
  rcases h with ⟨hb, rfl, h1⟩ | ⟨hb, v, hG, h1, -⟩
  · dsimp only at hb h1
    subst hb
    exact rtick_str R s w h1
  · dsimp only at hb
    subst hb
    exact (rtick_paste R _ v w h1).mono fun e w' ⟨he, hw⟩ => ⟨_, he, OwnK.nil _ _, fun _ => rfl, ⟨G, hw ▸ h', fun k hk => .inl hk⟩, hw ▸ Ex.refl _ _⟩
end Go.Proofs.YtiilgeinkocanaaDoor
