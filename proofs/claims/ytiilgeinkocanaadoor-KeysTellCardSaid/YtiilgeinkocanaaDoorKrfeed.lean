/- Contract of the reference's Feed. -/
import Derived.Test.YtiilgeinkocanaaDoorKrseq
import Derived.Test.YtiilgeinkocanaaDoorKrpasted
import Derived.Test.YtiilgeinkocanaaDoorKfeed
namespace Go.Proofs.YtiilgeinkocanaaDoor
open Go.RowKit

theorem toList_c (x : Int) (c : UInt8) (h0 : 0 ≤ x) (h1 : x ≤ 255) : ((strOfNums [x]).toList == [c]) = decide (x = c.toNat) := by
  rw [ByteArray.toList_eq]
  have e : (strOfNums [x]).data.toList = [UInt8.ofNat x.toNat] := rfl
  rw [e, Bool.eq_iff_iff]
  simp
  constructor
  · rintro rfl
    rw [ofNat_toNat (by omega)]; omega
  · rintro rfl
    simp
theorem one_of {s : ByteArray} (h : s.size = 1) (h0 : s.get! 0 = 27) : s = escS := by
  obtain ⟨⟨l⟩⟩ := s
  match l, h with
  | [a], _ =>
    have : a = 27 := h0
    rw [this]; rfl
theorem csi_of {s : ByteArray} (h : 2 ≤ s.size) (h0 : s.get! 0 = 27) : s.extract 0 2 = csiS ↔ s.get! 1 = 91 := by
  obtain ⟨⟨l⟩⟩ := s
  match l, h with
  | a :: b :: l, _ =>
    have : a = 27 := h0
    subst this
    constructor
    · intro h
      have h2 := congrArg (fun t : ByteArray => t.get! 1) h
      have h2 : (ByteArray.extract ⟨⟨27 :: b :: l⟩⟩ 0 2).get! 1 = csiS.get! 1 := h2
      rw [ext_get0 (by omega) (by show 2 ≤ l.length + 2; omega)] at h2
      exact h2
    · intro h
      have h : b = 91 := h
      rw [h]
      apply ByteArray.ext
      simp [csiS]
/-- The key's row, and what one byte makes anew, hung on. -/
theorem rs_after {R : Nat} {G : List Nat} {p : KS × List Ky} {u : Value} {w W w' : World} (hx : Ex [R] w W) (h1 : OwnK w' W.heap.size u p.2) (h2 : p.2 = [] → u = .slice none 0 0) (h3 : ∃ G', RAt w' R G' p.1 ∧ ∀ k ∈ G', k ∈ G ∨ W.heap.size ≤ k) (h4 : Ex [R] W w') : RFPost R G p w (.returned u) w' :=
  ⟨u, rfl, h1.mono hx.size, h2, (by obtain ⟨G', h3, h5⟩ := h3; exact ⟨G', h3, fun k hk => (h5 k hk).imp id (fun h => Nat.le_trans hx.size h)⟩), hx.trans h4 (fun x hx => .inl hx)⟩
theorem rf_join {R : Nat} {r : ByteArray × List Ky} {b : Bool} {v u : Value} {w W : World} (h1 : OwnK W w.heap.size u r.2) (h2 : r.2 ≠ []) (h3 : Blk W R 36 (rB r.1 b v)) (h4 : Ex [R] w W) : RPost R b v r w (.returned u) W := ⟨u, rfl, h1, fun e => absurd e h2, h3, h4⟩
set_option maxRecDepth 100000 in
set_option maxHeartbeats 4000000 in
theorem rfeed_nil (R : Nat) (s : ByteArray) (x : Int) (w : World) (h0 : 0 ≤ x) (h1 : x ≤ 255) (hz9 : s.size ≤ 900000) (hz : s.size = 0) (h : Blk w R 36 (rB s false (.slice none 0 0))) :
    Calls Tryd.prog 16 #[.pointer (some ⟨R, 0, none⟩), .int .u8 x] w (RFPost R [R] (waitK s x) w) := by
  have hs := size0 hz
  subst hs
  have HR := hide (show waitK ⟨#[]⟩ x = stays (firstK x) from first_short rfl x)
  have HW := hide (show Blk (w.alloc (.cells #[.int .u8 x] 5)) R 36 (rB ⟨#[]⟩ false (.slice none 0 0)) from h.alloc _)
  have HX := hide (ex_alloc (Ex.refl [R] w) (.cells #[.int .u8 x] 5))
  have hcv := conv_atK (w := w) (W := w.alloc (.cells #[.int .u8 x] 5)) x w.heap.size rfl rfl
  obtain ⟨W, hW⟩ : ∃ W, w.alloc (.cells #[.int .u8 x] 5) = W := ⟨_, rfl⟩
  rw [hW] at HW HX hcv
  have r0 := HW.out.cell (i := 0) rfl
  have r1 := HW.out.cell (i := 1) rfl
  have rf := HW.out.frozen 0
  have hs1 : (strOfNums [x]).size = 1 := rfl
  clear h
  go_enter Tryd.func16, Tryd.ntmps16
  go_wp2_with fail
  refine (rfirst_any R _ false _ x _ h0 h1 HW.out).mono ?_
  rintro e w4 ⟨u4, rfl, h5, h6, h7, h8⟩
  have H5 := hide (rk_after HX.out h5 h6 h7 h8)
  clear h5 h6 h7 h8
  go_wp2_with fail
  go_ret
  rw [HR.out]
  exact rf_of H5.out
set_option maxRecDepth 100000 in
set_option maxHeartbeats 4000000 in
theorem rfeed_rune (R : Nat) (s : ByteArray) (x : Int) (w : World) (h0 : 0 ≤ x) (h1 : x ≤ 255) (hz9 : s.size ≤ 900000) (hz : 0 < s.size) (h27 : s.get! 0 ≠ 27) (h : Blk w R 36 (rB s false (.slice none 0 0))) :
    Calls Tryd.prog 16 #[.pointer (some ⟨R, 0, none⟩), .int .u8 x] w (RFPost R [R] (waitK s x) w) := by
  have HR := hide (waitK_code hz h27 x)
  have hpos : 0 < s.size := by omega
  obtain ⟨c0, hc0⟩ : ∃ c0, s.get! 0 = c0 := ⟨_, rfl⟩
  have hg0 : s[0]'hpos = c0 := by rw [← hc0]; exact (get_of hpos).symm
  have e1 : s.toList.isEmpty = false := empty_tl false (decide_eq_false (by omega))
  have hn27 : ((c0.toNat : Int) != 27) = true := by
    simp only [bne_iff_ne, ne_eq]
    intro e
    apply h27
    rw [hc0]
    apply UInt8.toNat_inj.1
    show c0.toNat = 27
    omega
  clear hc0 h27
  have HW := hide (show Blk (w.alloc (.cells #[.int .u8 x] 5)) R 36 (rB s false (.slice none 0 0)) from h.alloc _)
  have HX := hide (ex_alloc (Ex.refl [R] w) (.cells #[.int .u8 x] 5))
  have hcv := conv_atK (w := w) (W := w.alloc (.cells #[.int .u8 x] 5)) x w.heap.size rfl rfl
  obtain ⟨W, hW⟩ : ∃ W, w.alloc (.cells #[.int .u8 x] 5) = W := ⟨_, rfl⟩
  rw [hW] at HW HX hcv
  have r0 := HW.out.cell (i := 0) rfl
  have r1 := HW.out.cell (i := 1) rfl
  have rf := HW.out.frozen 0
  have hs1 : (strOfNums [x]).size = 1 := rfl
  clear h
  go_enter Tryd.func16, Tryd.ntmps16
  go_wp2_with fail
  refine (rcode_any R s s false false _ x _ h0 h1 hz9 hz9 HW.out).mono ?_
  rintro e w4 ⟨u4, rfl, h5, h6, h7, h8⟩
  have H5 := hide (rk_after HX.out h5 h6 h7 h8)
  clear h5 h6 h7 h8
  go_wp2_with fail
  go_ret
  rw [HR.out]
  exact rf_of H5.out
set_option maxRecDepth 100000 in
set_option maxHeartbeats 4000000 in
theorem rfeed_esc (R : Nat) (s : ByteArray) (x : Int) (w : World) (h0 : 0 ≤ x) (h1 : x ≤ 255) (hz9 : s.size ≤ 900000) (hs : s = escS) (h : Blk w R 36 (rB s false (.slice none 0 0))) :
    Calls Tryd.prog 16 #[.pointer (some ⟨R, 0, none⟩), .int .u8 x] w (RFPost R [R] (waitK s x) w) := by
  have h27 : s.get! 0 = 27 := by rw [hs]; rfl
  have hz1 : s.size = 1 := by rw [hs]; rfl
  have e2 : (s.toList == [27]) = true := str_eqK (decide_eq_true hs)
  have HS := hide hs
  have HR0 := hide (show waitK s x = stays (escK x) by unfold waitK; rw [if_neg (by omega), if_pos hs])
  clear hs
  have hpos : 0 < s.size := by omega
  obtain ⟨c0, hc0⟩ : ∃ c0, s.get! 0 = c0 := ⟨_, rfl⟩
  have hg0 : s[0]'hpos = c0 := by rw [← hc0]; exact (get_of hpos).symm
  have e1 : s.toList.isEmpty = false := empty_tl false (decide_eq_false (by omega))
  have hn27 : ((c0.toNat : Int) != 27) = false := by
    rw [← hc0, h27]; rfl
  clear hc0 h27
  have t91 := toList_c x 91 h0 h1
  have t79 := toList_c x 79 h0 h1
  have HF := hide (first_keys x)
  have HW := hide (show Blk (w.alloc (.cells #[.int .u8 x] 5)) R 36 (rB s false (.slice none 0 0)) from h.alloc _)
  have HX := hide (ex_alloc (Ex.refl [R] w) (.cells #[.int .u8 x] 5))
  have hcv := conv_atK (w := w) (W := w.alloc (.cells #[.int .u8 x] 5)) x w.heap.size rfl rfl
  obtain ⟨W, hW⟩ : ∃ W, w.alloc (.cells #[.int .u8 x] 5) = W := ⟨_, rfl⟩
  rw [hW] at HW HX hcv
  have r0 := HW.out.cell (i := 0) rfl
  have r1 := HW.out.cell (i := 1) rfl
  have rf := HW.out.frozen 0
  have hs1 : (strOfNums [x]).size = 1 := rfl
  clear h
  have HZ := hide hz1
  clear hz1
  by_cases c91 : x = 91
  · have HR := hide (show waitK s x = stays (s ++ strOfNums [x], []) by rw [HR0.out]; unfold escK; rw [if_pos (.inl c91), HS.out])
    rw [decide_eq_true (by rw [c91]; rfl)] at t91
    clear c91
    go_enter Tryd.func16, Tryd.ntmps16
    go_wp2_with fail
    go_ret
    rw [HR.out]
    exact rf_of (rk_wait HX.out HW.out)
  rw [decide_eq_false (show ¬ x = ((91 : UInt8).toNat : Int) from c91)] at t91
  by_cases c79 : x = 79
  · have HR := hide (show waitK s x = stays (s ++ strOfNums [x], []) by rw [HR0.out]; unfold escK; rw [if_pos (.inr (.inl c79)), HS.out])
    rw [decide_eq_true (by rw [c79]; rfl)] at t79
    clear c79
    go_enter Tryd.func16, Tryd.ntmps16
    go_wp2_with fail
    go_ret
    rw [HR.out]
    exact rf_of (rk_wait HX.out HW.out)
  rw [decide_eq_false (show ¬ x = ((79 : UInt8).toNat : Int) from c79)] at t79
  by_cases c128 : 128 ≤ x
  · have HBg := hide (fun W => rbegins_any (strOfNums [x]) W (by rw [one_size]; omega))
    have c127 : ¬ x < 127 := by omega
    have c32 : 32 ≤ x := by omega
    cases hb : begB (strOfNums [x])
    case true =>
      have HR := hide (show waitK s x = stays (s ++ strOfNums [x], []) by rw [HR0.out]; unfold escK; rw [if_pos (.inr (.inr hb)), HS.out])
      rw [hb] at HBg
      clear hb
      go_enter Tryd.func16, Tryd.ntmps16
      go_wp2_with fail
      refine (HBg.out _).mono ?_
      rintro e w1 ⟨rfl, hb1⟩
      have HW1 := hide (HW.out.below hb1)
      have HX1 := hide (ex_below HX.out hb1)
      have q0 := HW1.out.cell (i := 0) rfl
      have qf := HW1.out.frozen 0
      clear hb1
      go_wp2_with fail
      go_ret
      rw [HR.out]
      exact rf_of (rk_wait HX1.out HW1.out)
    case false =>
      have HR := hide (show waitK s x = stays (thenK (kOne 5) x) by rw [HR0.out]; unfold escK; rw [if_neg (by rw [hb]; simp; omega), if_neg (by omega)])
      rw [hb] at HBg
      clear hb
      go_enter Tryd.func16, Tryd.ntmps16
      go_wp2_with fail
      refine (HBg.out _).mono ?_
      rintro e w9 ⟨rfl, hb1⟩
      have HW9 := hide (HW.out.below hb1)
      have HX9 := hide (ex_below HX.out hb1)
      clear hb1
      go_wp2_with fail
      refine (rkey_any 5 0 ⟨#[]⟩ _).mono ?_
      rintro e w1 ⟨rfl, rfl⟩
      have HD1 := hide (HW9.out.alloc (.cells #[.int .i64 5, .int .i32 0, .string ⟨#[]⟩] 26))
      have HX1 := hide (ex_alloc HX9.out (.cells #[.int .i64 5, .int .i32 0, .string ⟨#[]⟩] 26))
      have HO1 := hide (OwnK.lit (W := w9.alloc (.cells #[.int .i64 5, .int .i32 0, .string ⟨#[]⟩] 26)) (k := ⟨5, 0, ⟨#[]⟩⟩) HX9.out.size (World.alloc_heap_new _ _))
      obtain ⟨W1, hW1⟩ : ∃ W1, w9.alloc (.cells #[.int .i64 5, .int .i32 0, .string ⟨#[]⟩] 26) = W1 := ⟨_, rfl⟩
      rw [hW1] at HD1 HX1 HO1 ⊢
      clear hW1
      go_wp2_with fail
      refine (rfirst_any R s false _ x _ h0 h1 HD1.out).mono ?_
      rintro e w2 ⟨u, rfl, ho, hn, hD2, hx2⟩
      have HK2 := hide (ho.keys hn)
      have HO2 := hide (HO1.out.ex HD1.out refKey hx2)
      have HD2 := hide hD2
      have HX2 := hide (HX1.out.trans hx2 (fun x hx => .inl hx))
      have hz := HX2.out.size
      clear ho hn hD2 hx2
      go_wp2_with (at_builtin; refine wpList_keys w2 rfl (.tmp 71) (.tmp 74) rfl w.heap.size hz _ _ _ _ rfl rfl HO2.out HK2.out (by have := HF.out; simp; omega) ?_; intro v2 w3 hown hg hb2 hnil; have HO3 := hide hown; have HD3 := hide (HD2.out.keep hg (HO2.out.ne HD2.out refKey)); have HG3 := hide (ex_grown HX2.out hg (own_ge HO2.out)); clear hown hg hb2 hnil)
      go_ret
      rw [HR.out]
      exact rf_of (rf_join HO3.out (by unfold thenK kOne; simp) HD3.out HG3.out)
  have HBS := hide (beg_small h0 (by omega : x < 128))
  have c91' : x ≠ 91 := c91
  by_cases d1 : 32 ≤ x
  · by_cases d2 : x < 127
    · have HR := hide (show waitK s x = stays (⟨#[]⟩, kLet 7 x) by rw [HR0.out]; unfold escK; rw [if_neg (by rw [HBS.out]; simp; omega), if_pos ⟨d1, d2⟩])
      clear c91' c91 c79
      have HX2 := hide (ex_set HX.out 0 (.string ⟨#[]⟩))
      have HD2 := hide (show Blk (W.setCell ⟨R, 0, none⟩ (.string ⟨#[]⟩)) R 36 (rB ⟨#[]⟩ false (.slice none 0 0)) from HW.out.set 0 _)
      obtain ⟨W2, hW2⟩ : ∃ W2, W.setCell ⟨R, 0, none⟩ (.string ⟨#[]⟩) = W2 := ⟨_, rfl⟩
      rw [hW2] at HX2 HD2
      go_enter Tryd.func16, Tryd.ntmps16
      go_wp2_with fail
      refine (rkey_any 7 x ⟨#[]⟩ _).mono ?_
      rintro e w7 ⟨rfl, rfl⟩
      go_wp2_with fail
      go_ret
      rw [HR.out]
      exact rf_of (rk_key (k := ⟨7, x, ⟨#[]⟩⟩) HX2.out HD2.out)
    · have HR := hide (show waitK s x = stays (thenK (kOne 5) x) by rw [HR0.out]; unfold escK; rw [if_neg (by rw [HBS.out]; simp; omega), if_neg (by omega)])
      clear c91' c91 c79
      go_enter Tryd.func16, Tryd.ntmps16
      go_wp2_with fail
      refine (rkey_any 5 0 ⟨#[]⟩ _).mono ?_
      rintro e w1 ⟨rfl, rfl⟩
      have HD1 := hide (HW.out.alloc (.cells #[.int .i64 5, .int .i32 0, .string ⟨#[]⟩] 26))
      have HX1 := hide (ex_alloc HX.out (.cells #[.int .i64 5, .int .i32 0, .string ⟨#[]⟩] 26))
      have HO1 := hide (OwnK.lit (W := W.alloc (.cells #[.int .i64 5, .int .i32 0, .string ⟨#[]⟩] 26)) (k := ⟨5, 0, ⟨#[]⟩⟩) HX.out.size (World.alloc_heap_new _ _))
      obtain ⟨W1, hW1⟩ : ∃ W1, W.alloc (.cells #[.int .i64 5, .int .i32 0, .string ⟨#[]⟩] 26) = W1 := ⟨_, rfl⟩
      rw [hW1] at HD1 HX1 HO1 ⊢
      clear hW1
      go_wp2_with fail
      refine (rfirst_any R s false _ x _ h0 h1 HD1.out).mono ?_
      rintro e w2 ⟨u, rfl, ho, hn, hD2, hx2⟩
      have HK2 := hide (ho.keys hn)
      have HO2 := hide (HO1.out.ex HD1.out refKey hx2)
      have HD2 := hide hD2
      have HX2 := hide (HX1.out.trans hx2 (fun x hx => .inl hx))
      have hz := HX2.out.size
      clear ho hn hD2 hx2
      go_wp2_with (at_builtin; refine wpList_keys w2 rfl (.tmp 71) (.tmp 74) rfl w.heap.size hz _ _ _ _ rfl rfl HO2.out HK2.out (by have := HF.out; simp; omega) ?_; intro v2 w3 hown hg hb2 hnil; have HO3 := hide hown; have HD3 := hide (HD2.out.keep hg (HO2.out.ne HD2.out refKey)); have HG3 := hide (ex_grown HX2.out hg (own_ge HO2.out)); clear hown hg hb2 hnil)
      go_ret
      rw [HR.out]
      exact rf_of (rf_join HO3.out (by unfold thenK kOne; simp) HD3.out HG3.out)
  · have HR := hide (show waitK s x = stays (thenK (kOne 5) x) by rw [HR0.out]; unfold escK; rw [if_neg (by rw [HBS.out]; simp; omega), if_neg (by omega)])
    clear c91' c91 c79
    go_enter Tryd.func16, Tryd.ntmps16
    go_wp2_with fail
    refine (rkey_any 5 0 ⟨#[]⟩ _).mono ?_
    rintro e w1 ⟨rfl, rfl⟩
    have HD1 := hide (HW.out.alloc (.cells #[.int .i64 5, .int .i32 0, .string ⟨#[]⟩] 26))
    have HX1 := hide (ex_alloc HX.out (.cells #[.int .i64 5, .int .i32 0, .string ⟨#[]⟩] 26))
    have HO1 := hide (OwnK.lit (W := W.alloc (.cells #[.int .i64 5, .int .i32 0, .string ⟨#[]⟩] 26)) (k := ⟨5, 0, ⟨#[]⟩⟩) HX.out.size (World.alloc_heap_new _ _))
    obtain ⟨W1, hW1⟩ : ∃ W1, W.alloc (.cells #[.int .i64 5, .int .i32 0, .string ⟨#[]⟩] 26) = W1 := ⟨_, rfl⟩
    rw [hW1] at HD1 HX1 HO1 ⊢
    clear hW1
    go_wp2_with fail
    refine (rfirst_any R s false _ x _ h0 h1 HD1.out).mono ?_
    rintro e w2 ⟨u, rfl, ho, hn, hD2, hx2⟩
    have HK2 := hide (ho.keys hn)
    have HO2 := hide (HO1.out.ex HD1.out refKey hx2)
    have HD2 := hide hD2
    have HX2 := hide (HX1.out.trans hx2 (fun x hx => .inl hx))
    have hz := HX2.out.size
    clear ho hn hD2 hx2
    go_wp2_with (at_builtin; refine wpList_keys w2 rfl (.tmp 71) (.tmp 74) rfl w.heap.size hz _ _ _ _ rfl rfl HO2.out HK2.out (by have := HF.out; simp; omega) ?_; intro v2 w3 hown hg hb2 hnil; have HO3 := hide hown; have HD3 := hide (HD2.out.keep hg (HO2.out.ne HD2.out refKey)); have HG3 := hide (ex_grown HX2.out hg (own_ge HO2.out)); clear hown hg hb2 hnil)
    go_ret
    rw [HR.out]
    exact rf_of (rf_join HO3.out (by unfold thenK kOne; simp) HD3.out HG3.out)
set_option maxRecDepth 100000 in
set_option maxHeartbeats 4000000 in
theorem rfeed_ss3 (R : Nat) (s : ByteArray) (x : Int) (w : World) (h0 : 0 ≤ x) (h1 : x ≤ 255) (hz9 : s.size ≤ 900000) (hs : s = ss3S) (h : Blk w R 36 (rB s false (.slice none 0 0))) :
    Calls Tryd.prog 16 #[.pointer (some ⟨R, 0, none⟩), .int .u8 x] w (RFPost R [R] (waitK s x) w) := by
  have h27 : s.get! 0 = 27 := by rw [hs]; rfl
  have hz2 : s.size = 2 := by rw [hs]; rfl
  have e2 : (s.toList == [27]) = false := str_eqK (decide_eq_false (by rw [hs]; decide))
  have e3 : (s.toList == [27, 79]) = true := str_eqK (decide_eq_true hs)
  have HS := hide hs
  have HR0 := hide (show waitK s x = stays (thirdK x) by unfold waitK; rw [if_neg (by omega), if_neg (by rw [hs]; decide), if_pos hs])
  clear hs
  have hpos : 0 < s.size := by omega
  obtain ⟨c0, hc0⟩ : ∃ c0, s.get! 0 = c0 := ⟨_, rfl⟩
  have hg0 : s[0]'hpos = c0 := by rw [← hc0]; exact (get_of hpos).symm
  have e1 : s.toList.isEmpty = false := empty_tl false (decide_eq_false (by omega))
  have hn27 : ((c0.toNat : Int) != 27) = false := by
    rw [← hc0, h27]; rfl
  clear hc0 h27
  have HW := hide (show Blk (w.alloc (.cells #[.int .u8 x] 5)) R 36 (rB s false (.slice none 0 0)) from h.alloc _)
  have HX := hide (ex_alloc (Ex.refl [R] w) (.cells #[.int .u8 x] 5))
  have hcv := conv_atK (w := w) (W := w.alloc (.cells #[.int .u8 x] 5)) x w.heap.size rfl rfl
  obtain ⟨W, hW⟩ : ∃ W, w.alloc (.cells #[.int .u8 x] 5) = W := ⟨_, rfl⟩
  rw [hW] at HW HX hcv
  have r0 := HW.out.cell (i := 0) rfl
  have r1 := HW.out.cell (i := 1) rfl
  have rf := HW.out.frozen 0
  have hs1 : (strOfNums [x]).size = 1 := rfl
  clear h
  have HRA := hide (fun W => rarrow_any (strOfNums [x]) W)
  rw [arrowS_one x h0 h1] at HRA
  obtain ⟨y, hy⟩ : ∃ y, arrowK x = y := ⟨_, rfl⟩
  rw [hy] at HRA
  have HY := hide hy
  clear hy
  have HX2 := hide (ex_set HX.out 0 (.string ⟨#[]⟩))
  have HD2 := hide (show Blk (W.setCell ⟨R, 0, none⟩ (.string ⟨#[]⟩)) R 36 (rB ⟨#[]⟩ false (.slice none 0 0)) from HW.out.set 0 _)
  obtain ⟨W2, hW2⟩ : ∃ W2, W.setCell ⟨R, 0, none⟩ (.string ⟨#[]⟩) = W2 := ⟨_, rfl⟩
  rw [hW2] at HX2 HD2
  have HZ := hide hz2
  have hz5 : s.size ≤ 2 := by omega
  clear hz2
  by_cases hp : 0 < y
  · have HR := hide (show waitK s x = stays (⟨#[]⟩, kOne y) by rw [HR0.out]; unfold thirdK; rw [if_pos (by rw [HY.out]; exact hp), HY.out])
    go_enter Tryd.func16, Tryd.ntmps16
    go_wp2_with fail
    refine (HRA.out _).mono ?_
    rintro e w3 ⟨rfl, hb3⟩
    have HX3 := hide (ex_below HX2.out hb3)
    have HD3 := hide (HD2.out.below hb3)
    clear hb3
    go_wp2_with fail
    refine (HRA.out _).mono ?_
    rintro e w4 ⟨rfl, hb4⟩
    have HX4 := hide (ex_below HX3.out hb4)
    have HD4 := hide (HD3.out.below hb4)
    clear hb4
    go_wp2_with fail
    refine (rkey_any y 0 ⟨#[]⟩ _).mono ?_
    rintro e w7 ⟨rfl, rfl⟩
    go_wp2_with fail
    go_ret
    rw [HR.out]
    exact rf_of (rk_key (k := ⟨y, 0, ⟨#[]⟩⟩) HX4.out HD4.out)
  have hpd : decide ((0 : Int) < y) = false := decide_eq_false hp
  by_cases d1 : 32 ≤ x
  · by_cases d2 : x < 127
    · have HR := hide (show waitK s x = stays (⟨#[]⟩, kBad (s ++ strOfNums [x])) by rw [HR0.out]; unfold thirdK; rw [if_neg (by rw [HY.out]; exact hp), if_pos ⟨d1, d2⟩, HS.out])
      go_enter Tryd.func16, Tryd.ntmps16
      go_wp2_with fail
      refine (HRA.out _).mono ?_
      rintro e w3 ⟨rfl, hb3⟩
      have HX3 := hide (ex_below HX2.out hb3)
      have HD3 := hide (HD2.out.below hb3)
      clear hb3
      go_wp2_with fail
      refine (rkey_any 0 0 (s ++ strOfNums [x]) _).mono ?_
      rintro e w7 ⟨rfl, rfl⟩
      go_wp2_with fail
      go_ret
      rw [HR.out]
      exact rf_of (rk_key (k := ⟨0, 0, s ++ strOfNums [x]⟩) HX3.out HD3.out)
    · have HR := hide (show waitK s x = stays (thenK (kBad s) x) by rw [HR0.out]; unfold thirdK; rw [if_neg (by rw [HY.out]; exact hp), if_neg (by omega), HS.out])
      go_enter Tryd.func16, Tryd.ntmps16
      go_wp2_with fail
      refine (HRA.out _).mono ?_
      rintro e w3 ⟨rfl, hb3⟩
      have HX3 := hide (ex_below HX2.out hb3)
      have HD3 := hide (HD2.out.below hb3)
      clear hb3
      go_wp2_with fail
      refine (ranew_any R _ s false _ x _ h0 h1 HD3.out).mono ?_
      rintro e w4 ⟨u4, rfl, h5, h6, h7, h8⟩
      have H5 := hide (rk_after HX3.out h5 h6 h7 h8)
      clear h5 h6 h7 h8
      go_wp2_with fail
      go_ret
      rw [HR.out]
      exact rf_of H5.out
  · have HR := hide (show waitK s x = stays (thenK (kBad s) x) by rw [HR0.out]; unfold thirdK; rw [if_neg (by rw [HY.out]; exact hp), if_neg (by omega), HS.out])
    go_enter Tryd.func16, Tryd.ntmps16
    go_wp2_with fail
    refine (HRA.out _).mono ?_
    rintro e w3 ⟨rfl, hb3⟩
    have HX3 := hide (ex_below HX2.out hb3)
    have HD3 := hide (HD2.out.below hb3)
    clear hb3
    go_wp2_with fail
    refine (ranew_any R _ s false _ x _ h0 h1 HD3.out).mono ?_
    rintro e w4 ⟨u4, rfl, h5, h6, h7, h8⟩
    have H5 := hide (rk_after HX3.out h5 h6 h7 h8)
    clear h5 h6 h7 h8
    go_wp2_with fail
    go_ret
    rw [HR.out]
    exact rf_of H5.out
set_option maxRecDepth 100000 in
set_option maxHeartbeats 4000000 in
theorem rfeed_long (R : Nat) (s : ByteArray) (x : Int) (w : World) (h0 : 0 ≤ x) (h1 : x ≤ 255) (hz9 : s.size ≤ 900000) (hz2 : 2 ≤ s.size) (h27 : s.get! 0 = 27) (hs3 : s ≠ ss3S) (h : Blk w R 36 (rB s false (.slice none 0 0))) :
    Calls Tryd.prog 16 #[.pointer (some ⟨R, 0, none⟩), .int .u8 x] w (RFPost R [R] (waitK s x) w) := by
  have e2 : (s.toList == [27]) = false := str_eqK (decide_eq_false (fun e => by have e : s = escS := e; rw [e] at hz2; exact absurd hz2 (by decide)))
  have e3 : (s.toList == [27, 79]) = false := str_eqK (decide_eq_false hs3)
  have HCSI := hide (csi_of hz2 h27)
  have HR0 := hide (show waitK s x = if s.extract 0 2 = csiS then seqK s x else stays (codeK true s (s.extract 1 s.size) x) by
    unfold waitK
    rw [if_neg (by omega), if_neg (fun e => by rw [e] at hz2; exact absurd hz2 (by decide)), if_neg hs3]
    by_cases h : s.extract 0 2 = csiS
    · rw [if_pos ⟨hz2, h⟩, if_pos h]
    · rw [if_neg (fun e => h e.2), if_neg h, if_pos h27])
  clear hs3
  have hpos : 0 < s.size := by omega
  obtain ⟨c0, hc0⟩ : ∃ c0, s.get! 0 = c0 := ⟨_, rfl⟩
  have hg0 : s[0]'hpos = c0 := by rw [← hc0]; exact (get_of hpos).symm
  have e1 : s.toList.isEmpty = false := empty_tl false (decide_eq_false (by omega))
  obtain ⟨c1, hc1⟩ : ∃ c1, s.get! 1 = c1 := ⟨_, rfl⟩
  have hg1 : s[1]'(by omega) = c1 := by rw [← hc1]; exact (get_of (by omega)).symm
  rw [hc1] at HCSI
  clear hc1
  have hn27 : ((c0.toNat : Int) != 27) = false := by
    rw [← hc0, h27]; rfl
  clear hc0 h27
  have HW := hide (show Blk (w.alloc (.cells #[.int .u8 x] 5)) R 36 (rB s false (.slice none 0 0)) from h.alloc _)
  have HX := hide (ex_alloc (Ex.refl [R] w) (.cells #[.int .u8 x] 5))
  have hcv := conv_atK (w := w) (W := w.alloc (.cells #[.int .u8 x] 5)) x w.heap.size rfl rfl
  obtain ⟨W, hW⟩ : ∃ W, w.alloc (.cells #[.int .u8 x] 5) = W := ⟨_, rfl⟩
  rw [hW] at HW HX hcv
  have r0 := HW.out.cell (i := 0) rfl
  have r1 := HW.out.cell (i := 1) rfl
  have rf := HW.out.frozen 0
  have hs1 : (strOfNums [x]).size = 1 := rfl
  clear h
  by_cases h91 : c1 = 91
  · have HR := hide (show waitK s x = seqK s x by rw [HR0.out, if_pos (HCSI.out.2 h91)])
    have b91 : ((c1.toNat : Int) == 91) = true := by rw [h91]; rfl
    clear h91
    go_enter Tryd.func16, Tryd.ntmps16
    go_wp2_with fail
    refine (rseq_any R s x _ h0 h1 hz2 hz9 HW.out).mono ?_
    rintro e w4 ⟨u4, rfl, h5, h6, h7, h8⟩
    have H5 := hide (rs_after HX.out h5 h6 h7 h8)
    clear h5 h6 h7 h8
    go_wp2_with fail
    go_ret
    rw [HR.out]
    exact H5.out
  · have HR := hide (show waitK s x = stays (codeK true s (s.extract 1 s.size) x) by rw [HR0.out, if_neg (fun e => h91 (HCSI.out.1 e))])
    have b91 : ((c1.toNat : Int) == 91) = false := by
      rw [beq_eq_false_iff_ne]
      intro e
      apply h91
      apply UInt8.toNat_inj.1
      show c1.toNat = 91
      omega
    clear h91
    go_enter Tryd.func16, Tryd.ntmps16
    go_wp2_with fail
    refine (rcode_any R s (s.extract 1 s.size) true false _ x _ h0 h1 (by rw [ByteArray.size_extract]; omega) hz9 HW.out).mono ?_
    rintro e w4 ⟨u4, rfl, h5, h6, h7, h8⟩
    have H5 := hide (rk_after HX.out h5 h6 h7 h8)
    clear h5 h6 h7 h8
    go_wp2_with fail
    go_ret
    rw [HR.out]
    exact rf_of H5.out
set_option maxRecDepth 100000 in
set_option maxHeartbeats 4000000 in
theorem rfeed_paste (R : Nat) (G : List Nat) (p : ByteArray) (x : Int) (v : Value) (w : World) (h0 : 0 ≤ x) (h1 : x ≤ 255) (hz : p.size ≤ 900000) (hR : R ∈ G) (hG : G = [R] ∧ v = .slice none 0 0 ∧ p.size = 0 ∨ ∃ g n c, G = [R, g] ∧ v = .slice (some ⟨g, 0, none⟩) n c) (h : Blk w R 36 (rB ⟨#[]⟩ true v)) (hown : w.ownsRow 0 5 1 v p.size (byteV p)) :
    Calls Tryd.prog 16 #[.pointer (some ⟨R, 0, none⟩), .int .u8 x] w (RFPost R G (pasteK p x) w) := by
  have HW := hide (show Blk (w.alloc (.cells #[.int .u8 x] 5)) R 36 (rB ⟨#[]⟩ true v) from h.alloc _)
  have HX := hide (ex_alloc (Ex.refl [R] w) (.cells #[.int .u8 x] 5))
  have hcv := conv_atK (w := w) (W := w.alloc (.cells #[.int .u8 x] 5)) x w.heap.size rfl rfl
  have HO := hide (hown.alloc (.cells #[.int .u8 x] 5))
  obtain ⟨W, hW⟩ : ∃ W, w.alloc (.cells #[.int .u8 x] 5) = W := ⟨_, rfl⟩
  rw [hW] at HW HX hcv HO
  have r0 := HW.out.cell (i := 0) rfl
  have r1 := HW.out.cell (i := 1) rfl
  clear h hown
  go_enter Tryd.func16, Tryd.ntmps16
  go_wp2_with fail
  refine (rpasted_any R G p x v _ h0 h1 hz hR HW.out HO.out).mono ?_
  rintro e w4 ⟨u4, rfl, h5, h6, h7, h8⟩
  have H5 := hide (rs_after HX.out h5 h6 h7 h8)
  clear h5 h6 h7 h8
  go_wp2_with fail
  go_ret
  exact H5.out
/-- Contract of the reference's Feed. -/
theorem rfeed_any (R : Nat) (G : List Nat) (st : KS) (x : Int) (w : World) (h0 : 0 ≤ x) (h1 : x ≤ 255) (hz : st.2.size ≤ 900000) (h : RAt w R G st) :
    Calls Tryd.prog 16 #[.pointer (some ⟨R, 0, none⟩), .int .u8 x] w (RFPost R G (feedK st x) w) := by
  obtain ⟨b, s⟩ := st
  rcases h with ⟨hb, rfl, h⟩ | ⟨hb, v, hG, h, hown⟩
  · dsimp only at hb h hz
    subst hb
    show Calls _ _ _ _ (RFPost R [R] (waitK s x) w)
    by_cases hz0 : s.size = 0
    · exact rfeed_nil R s x w h0 h1 hz hz0 h
    by_cases h27 : s.get! 0 = 27
    · by_cases c1 : s = escS
      · exact rfeed_esc R s x w h0 h1 hz c1 h
      by_cases c2 : s = ss3S
      · exact rfeed_ss3 R s x w h0 h1 hz c2 h
      · exact rfeed_long R s x w h0 h1 hz (by
          by_cases h1' : s.size = 1
          · exact absurd (one_of h1' h27) c1
          · omega) h27 c2 h
    · exact rfeed_rune R s x w h0 h1 hz (by omega) h27 h
  · dsimp only at hb hG hown hz
    subst hb
    exact rfeed_paste R G s x v w h0 h1 hz (by rcases hG with ⟨rfl, -⟩ | ⟨g, n, c, rfl, -⟩ <;> simp) hG h hown
end Go.Proofs.YtiilgeinkocanaaDoor
