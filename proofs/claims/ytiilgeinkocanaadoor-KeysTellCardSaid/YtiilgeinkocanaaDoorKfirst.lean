/- Contracts of first, then, escaped, third of keys. -/
import Derived.Test.YtiilgeinkocanaaDoorKsmall
import Derived.Test.YtiilgeinkocanaaDoorKfulb
namespace Go.Proofs.YtiilgeinkocanaaDoor
open Go.RowKit

/-- What a step that leaves bytes waiting leaves. -/
def WPost (D : Nat) (p : ByteArray × List Ky) (w : World) (e : Ending) (w' : World) : Prop :=
  ∃ v, e = .returned v ∧ OwnK w' w.heap.size v p.2 ∧ (p.2 = [] → v = .slice none 0 0) ∧ Blk w' D 46 [.iface 9 (.string p.1)] ∧ Ex [D] w w'
theorem conv_atK {w W : World} (x : Int) (n : Nat) (hW : W = w.alloc (.cells #[.int .u8 x] 5)) (hn : w.heap.size = n) : (convert 34 9 (.slice (some ⟨n, 0, none⟩) 1 1)).run Tryd.prog W = .ok (.string (strOfNums [x])) W := by
  subst hW hn
  exact conv_1 w x
theorem ex_alloc {F : List Nat} {w W : World} (h : Ex F w W) (o : Obj) : Ex F w (W.alloc o) := h.trans (Ex.of_below ((Below.refl _ _).alloc (Nat.le_refl _) o) F) (fun x hx => .inl hx)
theorem ex_below {F : List Nat} {w W W' : World} (h : Ex F w W) (hb : Below W.heap.size W W') : Ex F w W' := h.trans (Ex.of_below hb F) (fun x hx => .inl hx)
theorem ex_set {w W : World} {D : Nat} (h : Ex [D] w W) (o : Nat) (x : Value) : Ex [D] w (W.setCell ⟨D, o, none⟩ x) := h.trans (Ex.set W D o x) (fun x hx => .inl hx)
theorem lit_own {w W : World} {k : Ky} (hB : w.heap.size ≤ W.heap.size) : OwnK (W.alloc (.cells #[.int .i64 k.kind, .int .i32 k.r, .string k.text] 26)) w.heap.size (.slice (some ⟨W.heap.size, 0, none⟩) 1 1) [k] := OwnK.lit hB (World.alloc_heap_new W _)
theorem toList_27 (x : Int) (h0 : 0 ≤ x) (h1 : x ≤ 255) : ((strOfNums [x]).toList == [27]) = decide (x = 27) := by
  rw [ByteArray.toList_eq]
  have e : (strOfNums [x]).data.toList = [UInt8.ofNat x.toNat] := rfl
  rw [e, Bool.eq_iff_iff]
  simp
  rw [ofNat_eq (by omega)]
  show x.toNat = 27 ↔ x = 27
  omega
theorem wk_mk {D : Nat} {p : ByteArray × List Ky} {w w' : World} {v : Value} (h1 : OwnK w' w.heap.size v p.2) (h2 : p.2 = [] → v = .slice none 0 0) (h3 : Blk w' D 46 [.iface 9 (.string p.1)]) (h4 : Ex [D] w w') : WPost D p w (.returned v) w' := ⟨v, rfl, h1, h2, h3, h4⟩
set_option maxRecDepth 100000 in
set_option maxHeartbeats 2000000 in
theorem first_any (D : Nat) (x : Int) (w : World) (hT : UTabs w) (h0 : 0 ≤ x) (h1 : x ≤ 255) (h : Blk w D 46 [.iface 9 (.string ⟨#[]⟩)]) :
    Calls Tryd.prog 25 #[.pointer (some ⟨D, 0, none⟩), .int .u8 x] w (WPost D (firstK x) w) := by
  have HT := hide (hT.below ((Below.refl w.heap.size w).alloc (Nat.le_refl _) (.cells #[.int .u8 x] 5)))
  have HA := hide ((Below.refl w.heap.size w).alloc (Nat.le_refl _) (.cells #[.int .u8 x] 5))
  have HD := hide (h.alloc (.cells #[.int .u8 x] 5))
  have hcv := fun n hn => conv_atK (w := w) (W := w.alloc (.cells #[.int .u8 x] 5)) x n rfl hn
  have ht := toList_27 x h0 h1
  clear hT h
  by_cases c0 : x = 27
  · subst c0
    have HR := hide (show firstK 27 = (strOfNums [27], []) by decide +kernel)
    rw [decide_eq_true rfl] at ht
    go_enter Tryd.func25, Tryd.ntmps25
    go_wp2_with fail
    refine (wait_any D _ _ _ HD.out).mono ?_
    rintro e w1 ⟨rfl, rfl⟩
    go_wp2_with fail
    go_ret
    rw [HR.out]
    exact wk_mk (OwnK.nil _ _) (fun _ => rfl) (HD.out.set 0 _) (ex_set (Ex.of_below HA.out _) _ _)
  have c0' : decide (x = 27) = false := by simpa using c0
  rw [c0'] at ht
  cases hb : begB (strOfNums [x])
  case true =>
    have HR := hide (show firstK x = (strOfNums [x], []) by unfold firstK; rw [if_pos (.inr hb)])
    have HBg := hide (begins_any (strOfNums [x]) _ HT.out)
    rw [hb] at HBg
    clear hb
    go_enter Tryd.func25, Tryd.ntmps25
    go_wp2_with fail
    refine HBg.out.mono ?_
    rintro e w1 ⟨rfl, hb1⟩
    have HD1 := hide (HD.out.below hb1)
    have HX1 := hide (ex_below (Ex.of_below HA.out [D]) hb1)
    clear hb1
    go_wp2_with fail
    refine (wait_any D _ _ _ HD1.out).mono ?_
    rintro e w2 ⟨rfl, rfl⟩
    go_wp2_with fail
    go_ret
    rw [HR.out]
    exact wk_mk (OwnK.nil _ _) (fun _ => rfl) (HD1.out.set 0 _) (ex_set HX1.out _ _)
  have HBg := hide (begins_any (strOfNums [x]) _ HT.out)
  rw [hb] at HBg
  have HR0 := hide (show ¬ (x = 27 ∨ begB (strOfNums [x]) = true) by rw [hb]; simp; exact c0)
  clear hb
  by_cases c13 : x = 13
  · subst c13
    have HR := hide (show firstK 13 = (⟨#[]⟩, kOne 2) by decide +kernel)
    go_enter Tryd.func25, Tryd.ntmps25
    go_wp2_with fail
    refine HBg.out.mono ?_
    rintro e w1 ⟨rfl, hb1⟩
    have HD1 := hide (HD.out.below hb1)
    have HX1 := hide (ex_below (Ex.of_below HA.out [D]) hb1)
    clear hb1
    go_wp2_with fail
    refine (one_any 2 _).mono ?_
    rintro e w2 ⟨rfl, rfl⟩
    go_wp2_with fail
    go_ret
    rw [HR.out]
    exact wk_mk (lit_own (k := ⟨2, 0, ⟨#[]⟩⟩) HX1.out.size) (fun e => by cases e) (HD1.out.alloc _) (ex_alloc HX1.out _)
  by_cases c10 : x = 10
  · subst c10
    have HR := hide (show firstK 10 = (⟨#[]⟩, kOne 2) by decide +kernel)
    go_enter Tryd.func25, Tryd.ntmps25
    go_wp2_with fail
    refine HBg.out.mono ?_
    rintro e w1 ⟨rfl, hb1⟩
    have HD1 := hide (HD.out.below hb1)
    have HX1 := hide (ex_below (Ex.of_below HA.out [D]) hb1)
    clear hb1
    go_wp2_with fail
    refine (one_any 2 _).mono ?_
    rintro e w2 ⟨rfl, rfl⟩
    go_wp2_with fail
    go_ret
    rw [HR.out]
    exact wk_mk (lit_own (k := ⟨2, 0, ⟨#[]⟩⟩) HX1.out.size) (fun e => by cases e) (HD1.out.alloc _) (ex_alloc HX1.out _)
  by_cases c9 : x = 9
  · subst c9
    have HR := hide (show firstK 9 = (⟨#[]⟩, kOne 3) by decide +kernel)
    go_enter Tryd.func25, Tryd.ntmps25
    go_wp2_with fail
    refine HBg.out.mono ?_
    rintro e w1 ⟨rfl, hb1⟩
    have HD1 := hide (HD.out.below hb1)
    have HX1 := hide (ex_below (Ex.of_below HA.out [D]) hb1)
    clear hb1
    go_wp2_with fail
    refine (one_any 3 _).mono ?_
    rintro e w2 ⟨rfl, rfl⟩
    go_wp2_with fail
    go_ret
    rw [HR.out]
    exact wk_mk (lit_own (k := ⟨3, 0, ⟨#[]⟩⟩) HX1.out.size) (fun e => by cases e) (HD1.out.alloc _) (ex_alloc HX1.out _)
  by_cases c8 : x = 8
  · subst c8
    have HR := hide (show firstK 8 = (⟨#[]⟩, kOne 4) by decide +kernel)
    go_enter Tryd.func25, Tryd.ntmps25
    go_wp2_with fail
    refine HBg.out.mono ?_
    rintro e w1 ⟨rfl, hb1⟩
    have HD1 := hide (HD.out.below hb1)
    have HX1 := hide (ex_below (Ex.of_below HA.out [D]) hb1)
    clear hb1
    go_wp2_with fail
    refine (one_any 4 _).mono ?_
    rintro e w2 ⟨rfl, rfl⟩
    go_wp2_with fail
    go_ret
    rw [HR.out]
    exact wk_mk (lit_own (k := ⟨4, 0, ⟨#[]⟩⟩) HX1.out.size) (fun e => by cases e) (HD1.out.alloc _) (ex_alloc HX1.out _)
  by_cases c127 : x = 127
  · subst c127
    have HR := hide (show firstK 127 = (⟨#[]⟩, kOne 4) by decide +kernel)
    go_enter Tryd.func25, Tryd.ntmps25
    go_wp2_with fail
    refine HBg.out.mono ?_
    rintro e w1 ⟨rfl, hb1⟩
    have HD1 := hide (HD.out.below hb1)
    have HX1 := hide (ex_below (Ex.of_below HA.out [D]) hb1)
    clear hb1
    go_wp2_with fail
    refine (one_any 4 _).mono ?_
    rintro e w2 ⟨rfl, rfl⟩
    go_wp2_with fail
    go_ret
    rw [HR.out]
    exact wk_mk (lit_own (k := ⟨4, 0, ⟨#[]⟩⟩) HX1.out.size) (fun e => by cases e) (HD1.out.alloc _) (ex_alloc HX1.out _)
  by_cases c0 : x = 0
  · subst c0
    have HR := hide (show firstK 0 = (⟨#[]⟩, kLet 6 64) by decide +kernel)
    go_enter Tryd.func25, Tryd.ntmps25
    go_wp2_with fail
    refine HBg.out.mono ?_
    rintro e w1 ⟨rfl, hb1⟩
    have HD1 := hide (HD.out.below hb1)
    have HX1 := hide (ex_below (Ex.of_below HA.out [D]) hb1)
    clear hb1
    go_wp2_with fail
    refine (letter_any 6 _ _).mono ?_
    rintro e w2 ⟨rfl, rfl⟩
    go_wp2_with fail
    go_ret
    rw [HR.out]
    exact wk_mk (lit_own (k := ⟨6, 64, ⟨#[]⟩⟩) HX1.out.size) (fun e => by cases e) (HD1.out.alloc _) (ex_alloc HX1.out _)
  have b13 : (x == 13) = false := by simpa using c13
  have b10 : (x == 10) = false := by simpa using c10
  have b9 : (x == 9) = false := by simpa using c9
  have b8 : (x == 8) = false := by simpa using c8
  have b127 : (x == 127) = false := by simpa using c127
  have b0 : (x == 0) = false := by simpa using c0
  have HR1 := hide (show firstK x = if 28 ≤ x ∧ x < 32 then (⟨#[]⟩, kLet 6 (x + 64)) else if x < 32 then (⟨#[]⟩, kLet 6 (x + 96)) else if x < 128 then (⟨#[]⟩, kLet 1 x) else (⟨#[]⟩, kBad (strOfNums [x])) by
    unfold firstK
    rw [if_neg HR0.out, if_neg (by omega), if_neg (by omega), if_neg (by omega)]
    by_cases h : 28 ≤ x ∧ x < 32
    · rw [if_pos (.inr h), if_pos h]
    · rw [if_neg (by omega), if_neg h])
  clear HR0 c0' c13 c10 c9 c8 c127 c0
  by_cases d1 : 28 ≤ x ∧ x < 32
  · have HR := hide (show firstK x = (⟨#[]⟩, kLet 6 (x + 64)) by rw [HR1.out, if_pos d1])
    obtain ⟨d2, d3⟩ := d1
    go_enter Tryd.func25, Tryd.ntmps25
    go_wp2_with fail
    refine HBg.out.mono ?_
    rintro e w1 ⟨rfl, hb1⟩
    have HD1 := hide (HD.out.below hb1)
    have HX1 := hide (ex_below (Ex.of_below HA.out [D]) hb1)
    clear hb1
    go_wp2_with fail
    refine (letter_any 6 _ _).mono ?_
    rintro e w2 ⟨rfl, rfl⟩
    go_wp2_with fail
    go_ret
    rw [HR.out]
    exact wk_mk (lit_own (k := ⟨6, x + 64, ⟨#[]⟩⟩) HX1.out.size) (fun e => by cases e) (HD1.out.alloc _) (ex_alloc HX1.out _)
  by_cases d2 : x < 32
  · have HR := hide (show firstK x = (⟨#[]⟩, kLet 6 (x + 96)) by rw [HR1.out, if_neg d1, if_pos d2])
    have d3 : ¬ 28 ≤ x := by omega
    clear d1
    go_enter Tryd.func25, Tryd.ntmps25
    go_wp2_with fail
    refine HBg.out.mono ?_
    rintro e w1 ⟨rfl, hb1⟩
    have HD1 := hide (HD.out.below hb1)
    have HX1 := hide (ex_below (Ex.of_below HA.out [D]) hb1)
    clear hb1
    go_wp2_with fail
    refine (letter_any 6 _ _).mono ?_
    rintro e w2 ⟨rfl, rfl⟩
    go_wp2_with fail
    go_ret
    rw [HR.out]
    exact wk_mk (lit_own (k := ⟨6, x + 96, ⟨#[]⟩⟩) HX1.out.size) (fun e => by cases e) (HD1.out.alloc _) (ex_alloc HX1.out _)
  have d4 : ¬ (28 ≤ x ∧ x < 32) := d1
  clear d1
  by_cases d3 : x < 128
  · have HR := hide (show firstK x = (⟨#[]⟩, kLet 1 x) by rw [HR1.out, if_neg d4, if_neg d2, if_pos d3])
    clear d4
    go_enter Tryd.func25, Tryd.ntmps25
    go_wp2_with fail
    refine HBg.out.mono ?_
    rintro e w1 ⟨rfl, hb1⟩
    have HD1 := hide (HD.out.below hb1)
    have HX1 := hide (ex_below (Ex.of_below HA.out [D]) hb1)
    clear hb1
    go_wp2_with fail
    refine (letter_any 1 _ _).mono ?_
    rintro e w2 ⟨rfl, rfl⟩
    go_wp2_with fail
    go_ret
    rw [HR.out]
    exact wk_mk (lit_own (k := ⟨1, x, ⟨#[]⟩⟩) HX1.out.size) (fun e => by cases e) (HD1.out.alloc _) (ex_alloc HX1.out _)
  · have HR := hide (show firstK x = (⟨#[]⟩, kBad (strOfNums [x])) by rw [HR1.out, if_neg d4, if_neg d2, if_neg d3])
    clear d4
    go_enter Tryd.func25, Tryd.ntmps25
    go_wp2_with fail
    refine HBg.out.mono ?_
    rintro e w1 ⟨rfl, hb1⟩
    have HD1 := hide (HD.out.below hb1)
    have HX1 := hide (ex_below (Ex.of_below HA.out [D]) hb1)
    clear hb1
    go_wp2_with fail
    refine (invalid_any _ _).mono ?_
    rintro e w2 ⟨rfl, rfl⟩
    go_wp2_with fail
    go_ret
    rw [HR.out]
    exact wk_mk (lit_own (k := ⟨0, 0, strOfNums [x]⟩) HX1.out.size) (fun e => by cases e) (HD1.out.alloc _) (ex_alloc HX1.out _)
end Go.Proofs.YtiilgeinkocanaaDoor
