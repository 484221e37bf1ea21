/- Contracts of within, Len, Pieces, Insert, Delete and Slice. -/
import Derived.Test.YtmllbaacjodccaaQplain
import Derived.BigQuiet
namespace Go.Proofs.Ytmllbaacjodccaa
open Go.RowKit
variable {R : Nat → Prop}

set_option maxHeartbeats 400000 in
theorem within_any (p : Value) (zs : List ByteArray) (f t : Int) (w : World) (h : TextAt R w p zs) :
    Calls Try.prog 25 #[p, .int .i64 f, .int .i64 t] w fun e w' => e = .returned (.bool (decide (0 ≤ f) && decide (f ≤ t) && decide (t ≤ (total zs : Int)))) ∧ w = w' := by
  obtain ⟨b, v, rfl, -, h0, h1, h2, hs⟩ := h
  clear hs
  generalize total zs = n at *
  by_cases h3 : 0 ≤ f
  · by_cases h4 : f ≤ t
    · by_cases h5 : t ≤ (n : Int)
      · go_enter Try.func25, Try.ntmps25
        go_wp2
        go_ret
        simp [h3, h4, h5]
      · go_enter Try.func25, Try.ntmps25
        go_wp2
        go_ret
        simp [h3, h4, h5]
    · go_enter Try.func25, Try.ntmps25
      go_wp2
      go_ret
      simp [h3, h4]; omega
  · go_enter Try.func25, Try.ntmps25
    go_wp2
    go_ret
    simp [h3]; omega
set_option maxHeartbeats 400000 in
theorem len_any (p : Value) (zs : List ByteArray) (w : World) (h : TextAt R w p zs) : Calls Try.prog 13 #[p] w fun e w' => e = .returned (.int .i64 (total zs : Nat)) ∧ Below w.heap.size w w' := by
  have H := hide h
  obtain ⟨b, v, rfl, -, h0, h1, h2, hs⟩ := h
  clear hs
  go_enter Try.func13, Try.ntmps13
  go_wp2_with (go_at_call 24; refine (none_text _ zs _ H.out).mono ?_; rintro e w1 ⟨rfl, rfl⟩)
  go_ret
  exact ⟨rfl, Below.refl _ _⟩
set_option maxHeartbeats 400000 in
theorem pieces_any (p : Value) (zs : List ByteArray) (w : World) (h : TextAt R w p zs) : Calls Try.prog 17 #[p] w fun e w' => e = .returned (.int .i64 (zs.length : Nat)) ∧ Below w.heap.size w w' := by
  have H := hide h
  obtain ⟨b, v, rfl, -, h0, h1, h2, A, c, rfl, hc, hs⟩ := h
  clear hs
  go_enter Try.func17, Try.ntmps17
  go_wp2_with (go_at_call 24; refine (none_text _ zs _ H.out).mono ?_; rintro e w1 ⟨rfl, rfl⟩)
  go_ret
  exact ⟨rfl, Below.refl _ _⟩

set_option maxHeartbeats 1000000 in
theorem Insert_any (p : Value) (zs : List ByteArray) (a : Nat) (s : ByteArray) (w : World) (h : TextAt R w p zs) (ha : a ≤ total zs) (hs : total zs + s.size ≤ 16384) (hl : zs.length ≤ 1000) (hR : Lows R w.heap.size) :
    Calls Try.prog 10 #[p, .int .i64 a, .string s] w fun e w' => ∃ p', e = .returned (.tuple #[p', .int .i64 0]) ∧ TextAt R w' p' (insP zs a s) ∧ Below w.heap.size w w' := by
  have H := hide h
  obtain ⟨b, v, rfl, -, h0, h1, h2, hst⟩ := h
  have HS := hide hst
  have HTI := hide (total_ins zs a s)
  have HLI := hide (len_ins zs a s)
  have HLA := hide (len_cutA zs a)
  have HLB := hide (len_cutB zs a)
  have HO := hide (one_le s)
  have HW : (decide (0 ≤ (a : Int)) && decide ((a : Int) ≤ a) && decide ((a : Int) ≤ (total zs : Int))) = true := by simp; omega
  have hfull : ¬ (16384 : Int) - (total zs : Int) < (s.size : Int) := by omega
  clear hst
  go_enter Try.func10, Try.ntmps10
  go_wp2_with fail
  refine (none_text _ zs _ H.out).mono ?_; rintro e w1 ⟨rfl, rfl⟩
  go_wp2_with fail
  refine (within_any _ zs a a _ H.out).mono ?_; rw [HW]; rintro e w1 ⟨rfl, rfl⟩
  go_wp2_with fail
  refine (cut_any v zs a _ HS.out hl (by omega) hR).mono ?_; rintro e w1 ⟨va, vb, rfl, sa, sb, ap, b1⟩
  have SA := hide sa
  have SB := hide sb
  have AP := hide ap
  have B1 := hide b1
  clear sa sb ap b1
  go_wp2_with fail
  refine (some_gen va _ s _ SA.out (by have := HLA.out; omega) (hR.up B1.out.size)).mono ?_; rintro e w2 ⟨vc, rfl, sc, b2, hor⟩
  have SC := hide sc
  have SB2 := hide (SB.out.below b2)
  have AP2 := hide (show App R w2 w.heap.size vc (cutA zs a ++ onePiece s) (cutB zs a) by
    rcases hor with ⟨h0, rfl⟩ | hor
    · rw [no_piece _ h0, List.append_nil]; exact AP.out.below b2
    · exact (hor _).weaken B1.out.size)
  have B2 := hide (B1.out.trans (b2.mono B1.out.size))
  clear sc b2 hor SA SB AP
  go_wp2_with (at_builtin; refine wpList_app _ rfl _ _ rfl w.heap.size B2.out.size (hR.up B2.out.size) vc vb _ _ rfl rfl AP2.out SB2.out (by have := HLA.out; have := HLB.out; have := HO.out; simp only [List.length_append]; omega) ?_; intro v' w3 h1' h2' _; have SD := hide h1'; have B3 := hide (B2.out.trans h2'); clear h1' h2')
  refine (of_any v' (insP zs a s) _ (by rw [HTI.out]; omega) (by have := HLI.out; omega) SD.out).mono ?_; rintro e w4 ⟨p', rfl, tp, b4⟩
  have TP := hide tp
  have B4 := hide (B3.out.trans (b4.mono B3.out.size))
  clear tp b4
  go_wp2
  go_ret2
  exact ⟨p', rfl, TP.out, B4.out⟩

set_option maxHeartbeats 1000000 in
theorem Insert_arg (p : Value) (zs : List ByteArray) (a : Int) (s : ByteArray) (w : World) (h : TextAt R w p zs) (ha : (total zs : Int) < a) :
    Calls Try.prog 10 #[p, .int .i64 a, .string s] w fun e w' => e = .returned (.tuple #[.pointer none, .int .i64 2]) ∧ Below w.heap.size w w' := by
  have H := hide h
  have HW : (decide (0 ≤ a) && decide (a ≤ a) && decide (a ≤ (total zs : Int))) = false := by simp; omega
  go_enter Try.func10, Try.ntmps10
  go_wp2_with fail
  refine (none_text _ zs _ H.out).mono ?_; rintro e w1 ⟨rfl, rfl⟩
  go_wp2_with fail
  refine (within_any _ zs a a _ H.out).mono ?_; rw [HW]; rintro e w1 ⟨rfl, rfl⟩
  go_wp2
  go_ret2
  exact ⟨rfl, Below.refl _ _⟩
set_option maxHeartbeats 1000000 in
theorem Delete_any (p : Value) (zs : List ByteArray) (f t : Nat) (w : World) (h : TextAt R w p zs) (hft : f ≤ t) (ht : t ≤ total zs) (hs : total zs ≤ 16384) (hl : zs.length ≤ 1000) (hR : Lows R w.heap.size) :
    Calls Try.prog 11 #[p, .int .i64 f, .int .i64 t] w fun e w' => ∃ p', e = .returned (.tuple #[p', .int .i64 0]) ∧ TextAt R w' p' (delP zs f t) ∧ Below w.heap.size w w' := by
  have H := hide h
  obtain ⟨b, v, rfl, -, h0, h1, h2, hst⟩ := h
  have HS := hide hst
  have HTI := hide (total_del zs f t hft ht)
  have HLI := hide (len_del zs f t)
  have HLA := hide (len_cutA zs f)
  have HLB := hide (len_cutB zs f)
  have HLB2 := hide (len_cutB (cutB zs f) (t - f))
  have HW : (decide (0 ≤ (f : Int)) && decide ((f : Int) ≤ (t : Int)) && decide ((t : Int) ≤ (total zs : Int))) = true := by simp; omega
  have hsub : (t : Int) - (f : Int) = ((t - f : Nat) : Int) := by omega
  have HSUB := hide hsub
  clear hst hsub
  go_enter Try.func11, Try.ntmps11
  go_wp2_with fail
  refine (none_text _ zs _ H.out).mono ?_; rintro e w1 ⟨rfl, rfl⟩
  go_wp2_with fail
  refine (within_any _ zs f t _ H.out).mono ?_; rw [HW]; rintro e w1 ⟨rfl, rfl⟩
  go_wp2_with fail
  refine (cut_any v zs f _ HS.out hl (by omega) hR).mono ?_; rintro e w1 ⟨va, vb, rfl, sa, sb, ap, b1⟩
  have SA := hide sa
  have SB := hide sb
  have B1 := hide b1
  clear sa sb ap b1
  go_wp2_with fail
  rw [HSUB.out]
  refine (cut_any vb (cutB zs f) (t - f) _ SB.out (by have := HLB.out; omega) (by omega) (hR.up B1.out.size)).mono ?_; rintro e w2 ⟨vx, vc, rfl, sx, sc, ap, b2⟩
  obtain ⟨A, c, ev, hcc, -⟩ := SA.out
  subst ev
  have SA2 := hide (SA.out.below b2)
  have AP := hide (clip_app (B := w.heap.size) (cutB (cutB zs f) (t - f)) SA2.out)
  have SC := hide sc
  have B2 := hide (B1.out.trans (b2.mono B1.out.size))
  clear sx sc ap b2 SA
  go_wp2_with (at_builtin; refine wpList_app _ rfl _ _ rfl w.heap.size B2.out.size (hR.up B2.out.size) (.slice A (cutA zs f).length (cutA zs f).length) vc _ _ rfl rfl AP.out SC.out (by have := HLA.out; have := HLB.out; have := HLB2.out; omega) ?_; intro v' w3 h1' h2' _; have SD := hide h1'; have B3 := hide (B2.out.trans h2'); clear h1' h2')
  refine (of_any v' (delP zs f t) _ (by rw [HTI.out]; omega) (by have := HLI.out; omega) SD.out).mono ?_; rintro e w4 ⟨p', rfl, tp, b4⟩
  have TP := hide tp
  have B4 := hide (B3.out.trans (b4.mono B3.out.size))
  clear tp b4
  go_wp2
  go_ret2
  exact ⟨p', rfl, TP.out, B4.out⟩
set_option maxHeartbeats 1000000 in
theorem Slice_any (p : Value) (zs : List ByteArray) (f t : Nat) (s : ByteArray) (w : World) (h : TextAt R w p zs) (hft : f ≤ t) (ht : t ≤ total zs) (hs : total zs ≤ 16384) (hl : zs.length ≤ 1000) (hj : joined (sliceP zs f t) = s) (hR : Lows R w.heap.size) :
    Calls Try.prog 14 #[p, .int .i64 f, .int .i64 t] w fun e w' => e = .returned (.string s) ∧ Below w.heap.size w w' := by
  have H := hide h
  obtain ⟨b, v, rfl, -, h0, h1, h2, hst⟩ := h
  have HS := hide hst
  have HLB := hide (len_cutB zs f)
  have HLA := hide (len_cutA (cutB zs f) (t - f))
  have HT := hide (show total (cutA (cutB zs f) (t - f)) ≤ 1048576 by
    rw [← jl_length, jl_cutA, jl_cutB]
    have := jl_length zs
    simp only [List.length_take, List.length_drop]; omega)
  have HW : (decide (0 ≤ (f : Int)) && decide ((f : Int) ≤ (t : Int)) && decide ((t : Int) ≤ (total zs : Int))) = true := by simp; omega
  have HSUB := hide (show (t : Int) - (f : Int) = ((t - f : Nat) : Int) by omega)
  have HJ := hide hj
  clear hst hj
  go_enter Try.func14, Try.ntmps14
  go_wp2_with fail
  refine (none_text _ zs _ H.out).mono ?_; rintro e w1 ⟨rfl, rfl⟩
  go_wp2_with fail
  refine (within_any _ zs f t _ H.out).mono ?_; rw [HW]; rintro e w1 ⟨rfl, rfl⟩
  go_wp2_with fail
  refine (cut_any v zs f _ HS.out hl (by omega) hR).mono ?_; rintro e w1 ⟨va, vb, rfl, sa, sb, ap, b1⟩
  have SB := hide sb
  have B1 := hide b1
  clear sa sb ap b1
  go_wp2_with fail
  rw [HSUB.out]
  refine (cut_any vb (cutB zs f) (t - f) _ SB.out (by have := HLB.out; omega) (by omega) (hR.up B1.out.size)).mono ?_; rintro e w2 ⟨vx, vc, rfl, sx, sc, ap, b2⟩
  have SX := hide sx
  have B2 := hide (B1.out.trans (b2.mono B1.out.size))
  clear sx sc ap b2
  go_wp2_with fail
  refine (join_any vx _ _ SX.out HT.out (by have := HLA.out; have := HLB.out; omega)).mono ?_; rw [show cutA (cutB zs f) (t - f) = sliceP zs f t from rfl, HJ.out]; rintro e w3 ⟨rfl, b3⟩
  have B3 := hide (B2.out.trans (b3.mono B2.out.size))
  go_wp2
  go_ret
  exact ⟨rfl, B3.out⟩
set_option maxHeartbeats 1000000 in
theorem Slice_bad (p : Value) (zs : List ByteArray) (f t : Int) (w : World) (h : TextAt R w p zs) (hft : t < f) :
    Calls Try.prog 14 #[p, .int .i64 f, .int .i64 t] w fun e w' => e = .returned (.string ⟨#[]⟩) ∧ Below w.heap.size w w' := by
  have H := hide h
  have HW : (decide (0 ≤ f) && decide (f ≤ t) && decide (t ≤ (total zs : Int))) = false := by simp; omega
  go_enter Try.func14, Try.ntmps14
  go_wp2_with fail
  refine (none_text _ zs _ H.out).mono ?_; rintro e w1 ⟨rfl, rfl⟩
  go_wp2_with fail
  refine (within_any _ zs f t _ H.out).mono ?_; rw [HW]; rintro e w1 ⟨rfl, rfl⟩
  go_wp2
  go_ret
  exact ⟨rfl, Below.refl _ _⟩
end Go.Proofs.Ytmllbaacjodccaa
