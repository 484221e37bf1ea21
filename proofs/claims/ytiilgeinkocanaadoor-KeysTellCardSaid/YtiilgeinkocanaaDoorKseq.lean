/- Contract of sequence of keys. -/
import Derived.Test.YtiilgeinkocanaaDoorKcode
namespace Go.Proofs.YtiilgeinkocanaaDoor
open Go.RowKit

/-- What any step leaves. -/
def SPost (D : Nat) (p : KS × List Ky) (w : World) (e : Ending) (w' : World) : Prop :=
  ∃ v, e = .returned v ∧ OwnK w' w.heap.size v p.2 ∧ (p.2 = [] → v = .slice none 0 0) ∧ (∃ F, DecAt w' D F p.1 ∧ ∀ k ∈ F, k = D ∨ w.heap.size ≤ k) ∧ Ex [D] w w'
theorem sp_of {D : Nat} {p : ByteArray × List Ky} {w w' : World} {e : Ending} (h : WPost D p w e w') : SPost D (stays p) w e w' := by
  obtain ⟨v, he, h1, h2, h3, h4⟩ := h
  exact ⟨v, he, h1, h2, ⟨[D], .inl ⟨rfl, rfl, h3⟩, fun k hk => .inl (by simpa using hk)⟩, h4⟩
theorem str_eqK {a : ByteArray} {l : List UInt8} {b : Bool} (h : decide (a = ⟨l.toArray⟩) = b) : (a.toList == l) = b := by
  rw [← h, ByteArray.toList_eq, Bool.eq_iff_iff]
  simp only [beq_iff_eq, decide_eq_true_eq]
  constructor
  · intro e; apply ByteArray.ext; apply Array.ext'; simpa using e
  · intro e; rw [e]
set_option maxRecDepth 100000 in
set_option maxHeartbeats 2000000 in
theorem seq_low (D : Nat) (c : Value) (s : ByteArray) (x : Int) (w : World) (hT : UTabs w) (h0 : 0 ≤ x) (h1 : x ≤ 255) (hs : SafeB D) (hz : 2 ≤ s.size) (hz9 : s.size ≤ 1000000) (hx : x < 32 ∨ 127 ≤ x) (h : Blk w D 46 [c]) :
    Calls Tryd.prog 29 #[.pointer (some ⟨D, 0, none⟩), .string s, .int .u8 x] w (SPost D (seqK s x) w) := by
  have hA := (Below.refl w.heap.size w).alloc (Nat.le_refl _) (.cells #[.int .u8 x] 5)
  have HT1 := hide (hT.below hA)
  have HD1 := hide (h.alloc (.cells #[.int .u8 x] 5))
  have HX1 := hide (Ex.of_below hA [D])
  have hcv := fun n hn => conv_atK (w := w) (W := w.alloc (.cells #[.int .u8 x] 5)) x n rfl hn
  have hsz1 : (strOfNums [x]).size = 1 := rfl
  have hszu : (s ++ strOfNums [x]).size = s.size + 1 := str_size s x
  have HR := hide (show seqK s x = stays (thenK (kBad s) x) by unfold seqK; rw [if_pos hx])
  clear hT h hA
  rcases hx with d1 | d1
  all_goals
    go_enter Tryd.func29, Tryd.ntmps29
    go_wp2_with fail
    refine (invalid_any _ _).mono ?_
    rintro e w4 ⟨rfl, rfl⟩
    have hal := (Below.refl (w.alloc (.cells #[.int .u8 x] 5)).heap.size (w.alloc (.cells #[.int .u8 x] 5))).alloc (Nat.le_refl _) (.cells #[.int .i64 0, .int .i32 0, .string s] 26)
    have HD4 := hide (HD1.out.below hal)
    have HX4 := hide (ex_below HX1.out hal)
    have HT4 := hide (HT1.out.below hal)
    have HO4 := hide (lit_own (k := ⟨0, 0, s⟩) HX1.out.size)
    clear hal
    rw [World.size_alloc] at HO4
    go_wp2_with fail
    refine (then_any D w.heap.size _ _ (kBad s) x _ HT4.out h0 h1 HO4.out (show (kBad s).length ≤ 10 from (by simp [kBad])) HX4.out.size hs HD4.out).mono ?_
    intro e w5 hp
    have HP := hide (sp_of (then_own HX4.out (then_ne x (fun e => by cases e)) hp))
    clear hp
    obtain ⟨v, rfl, h5⟩ := HP.out
    go_wp2_with fail
    go_ret
    rw [HR.out]
    exact ⟨_, rfl, h5⟩
set_option maxRecDepth 100000 in
set_option maxHeartbeats 2000000 in
theorem seq_mid (D : Nat) (c : Value) (s : ByteArray) (x : Int) (w : World) (h0 : 0 ≤ x) (h1 : x ≤ 255) (hz : 2 ≤ s.size) (hz9 : s.size ≤ 1000000) (hx : 32 ≤ x) (hx2 : x < 64) (h : Blk w D 46 [c]) :
    Calls Tryd.prog 29 #[.pointer (some ⟨D, 0, none⟩), .string s, .int .u8 x] w (SPost D (seqK s x) w) := by
  have hA := (Below.refl w.heap.size w).alloc (Nat.le_refl _) (.cells #[.int .u8 x] 5)
  have HD1 := hide (h.alloc (.cells #[.int .u8 x] 5))
  have HX1 := hide (Ex.of_below hA [D])
  have hcv := fun n hn => conv_atK (w := w) (W := w.alloc (.cells #[.int .u8 x] 5)) x n rfl hn
  have hsz1 : (strOfNums [x]).size = 1 := rfl
  have hszu : (s ++ strOfNums [x]).size = s.size + 1 := str_size s x
  have HR := hide (show seqK s x = stays (s ++ strOfNums [x], []) by unfold seqK; rw [if_neg (by omega), if_pos hx2]; rfl)
  clear h hA
  go_enter Tryd.func29, Tryd.ntmps29
  go_wp2_with fail
  refine (wait_any D _ _ _ HD1.out).mono ?_
  rintro e w4 ⟨rfl, rfl⟩
  go_wp2_with fail
  go_ret
  rw [HR.out]
  exact sp_of (wk_mk (OwnK.nil _ _) (fun _ => rfl) (HD1.out.set 0 _) (ex_set HX1.out _ _))
set_option maxRecDepth 100000 in
set_option maxHeartbeats 2000000 in
theorem seq_paste (D : Nat) (c : Value) (s : ByteArray) (x : Int) (w : World) (h0 : 0 ≤ x) (h1 : x ≤ 255) (hz : 2 ≤ s.size) (hz9 : s.size ≤ 1000000) (hx : 64 ≤ x) (hx2 : x < 127) (hb : (s ++ strOfNums [x]).extract 2 (s ++ strOfNums [x]).size = beginS) (h : Blk w D 46 [c]) :
    Calls Tryd.prog 29 #[.pointer (some ⟨D, 0, none⟩), .string s, .int .u8 x] w (SPost D (seqK s x) w) := by
  have hA := (Below.refl w.heap.size w).alloc (Nat.le_refl _) (.cells #[.int .u8 x] 5)
  have HD1 := hide (h.alloc (.cells #[.int .u8 x] 5))
  have HX1 := hide (Ex.of_below hA [D])
  have hcv := fun n hn => conv_atK (w := w) (W := w.alloc (.cells #[.int .u8 x] 5)) x n rfl hn
  have hsz1 : (strOfNums [x]).size = 1 := rfl
  have hszu : (s ++ strOfNums [x]).size = s.size + 1 := str_size s x
  have HR := hide (show seqK s x = ((true, ⟨#[]⟩), []) by unfold seqK; rw [if_neg (by omega), if_neg (by omega)]; unfold seqEnd; rw [if_pos hb])
  have hbt : (((s ++ strOfNums [x]).extract 2 (s.size + 1)).toList == [50, 48, 48, 126]) = true := str_eqK (by rw [← hszu]; exact decide_eq_true hb)
  have HD2 := hide (HD1.out.alloc (.cells #[.slice none 0 0] 70))
  have HQ2 := hide (Blk.new (w.alloc (.cells #[.int .u8 x] 5)) 70 [.slice none 0 0])
  have HX2 := hide (ex_alloc HX1.out (.cells #[.slice none 0 0] 70))
  have e0 := HD2.out.cell (i := 0) rfl
  have ef := HD2.out.frozen 0
  have HLT := hide h.lt
  have n1 : ¬ x < 32 := by omega
  have n2 : ¬ 127 ≤ x := by omega
  have n3 : ¬ x < 64 := by omega
  clear h hA hb
  rw [World.size_alloc] at HQ2
  go_enter Tryd.func29, Tryd.ntmps29
  go_wp2_with fail
  go_ret
  rw [HR.out]
  refine ⟨_, rfl, OwnK.nil _ _, fun _ => rfl, ⟨[D, w.heap.size + 1], .inr ⟨rfl, w.heap.size + 1, .slice none 0 0, .inl ⟨rfl, rfl, rfl⟩, HD2.out.set 0 _, HQ2.out.far (p := ⟨D, 0, none⟩) (show D ≠ w.heap.size + 1 by have := HLT.out; omega) _, ⟨rfl, .inl ⟨rfl, rfl⟩⟩⟩, fun k hk => ?_⟩, ex_set HX2.out _ _⟩
  simp only [List.mem_cons, List.not_mem_nil, or_false] at hk
  rcases hk with rfl | rfl
  · exact .inl rfl
  · exact .inr (Nat.le_succ _)
/-- The ways that end a sequence: a key of its own, or the bytes as they are. -/
theorem seqEnd_cases (s : ByteArray) (x : Int) (hs : (s ++ strOfNums [x]).size = s.size + 1) (hb : ¬ (s ++ strOfNums [x]).extract 2 (s ++ strOfNums [x]).size = beginS) :
    (s.size = 2 ∧ 0 < arrowK x ∧ seqEnd (s ++ strOfNums [x]) x = some (kOne (arrowK x))) ∨ ((s.size ≠ 2 ∨ arrowK x = 0) ∧ ∃ (b1 b2 b3 b4 b5 : Bool), decide ((s ++ strOfNums [x]).extract 2 (s ++ strOfNums [x]).size = ⟨#[49, 126]⟩) = b1 ∧ decide ((s ++ strOfNums [x]).extract 2 (s ++ strOfNums [x]).size = ⟨#[55, 126]⟩) = b2 ∧ decide ((s ++ strOfNums [x]).extract 2 (s ++ strOfNums [x]).size = ⟨#[52, 126]⟩) = b3 ∧ decide ((s ++ strOfNums [x]).extract 2 (s ++ strOfNums [x]).size = ⟨#[56, 126]⟩) = b4 ∧ decide ((s ++ strOfNums [x]).extract 2 (s ++ strOfNums [x]).size = ⟨#[51, 126]⟩) = b5 ∧
      seqEnd (s ++ strOfNums [x]) x = some (if b1 = true then kOne 12 else if b2 = true then kOne 12 else if b3 = true then kOne 13 else if b4 = true then kOne 13 else if b5 = true then kOne 14 else kBad (s ++ strOfNums [x]))) := by
  have ha := arrow_bd x
  unfold seqEnd
  rw [if_neg hb]
  by_cases h1 : s.size = 2 ∧ 0 < arrowK x
  · exact .inl ⟨h1.1, h1.2, by rw [if_pos ⟨by omega, h1.2⟩]⟩
  · refine .inr ⟨by omega, _, _, _, _, _, rfl, rfl, rfl, rfl, rfl, ?_⟩
    rw [if_neg (by omega)]
    simp only [decide_eq_true_eq]
    (repeat' split) <;> simp_all
set_option maxRecDepth 100000 in
set_option maxHeartbeats 4000000 in
theorem seq_done (D : Nat) (c : Value) (s : ByteArray) (x : Int) (w : World) (h0 : 0 ≤ x) (h1 : x ≤ 255) (hz : 2 ≤ s.size) (hz9 : s.size ≤ 1000000) (hx : 64 ≤ x) (hx2 : x < 127) (hb : ¬ (s ++ strOfNums [x]).extract 2 (s ++ strOfNums [x]).size = beginS) (h : Blk w D 46 [c]) :
    Calls Tryd.prog 29 #[.pointer (some ⟨D, 0, none⟩), .string s, .int .u8 x] w (SPost D (seqK s x) w) := by
  have hA := (Below.refl w.heap.size w).alloc (Nat.le_refl _) (.cells #[.int .u8 x] 5)
  have HD1 := hide (h.alloc (.cells #[.int .u8 x] 5))
  have HX1 := hide (Ex.of_below hA [D])
  have hcv := fun n hn => conv_atK (w := w) (W := (w.alloc (.cells #[.int .u8 x] 5))) x n rfl hn
  have hsz1 : (strOfNums [x]).size = 1 := rfl
  have hszu : (s ++ strOfNums [x]).size = s.size + 1 := str_size s x
  have hbt : (((s ++ strOfNums [x]).extract 2 (s.size + 1)).toList == [50, 48, 48, 126]) = false := str_eqK (by rw [← hszu]; exact decide_eq_false hb)
  have HS0 := hide (fun l (hl : seqEnd (s ++ strOfNums [x]) x = some l) => show seqK s x = stays (⟨#[]⟩, l) by unfold seqK; rw [if_neg (by omega), if_neg (by omega), hl]; rfl)
  have n1 : ¬ x < 32 := by omega
  have n2 : ¬ 127 ≤ x := by omega
  have n3 : ¬ x < 64 := by omega
  have hcs := seqEnd_cases s x hszu hb
  clear h hA hb
  obtain ⟨k, hk⟩ : ∃ k, arrowK x = k := ⟨_, rfl⟩
  have HK := hide hk
  have HAB := hide (arrow_bd x)
  rw [hk] at hcs HAB
  rcases hcs with ⟨g1, g2, g3⟩ | ⟨g1, b1, b2, b3, b4, b5, e1, e2, e3, e4, e5, g3⟩
  · have HR := hide (HS0.out _ g3)
    have hone : s.size + 1 - 2 = 1 := by omega
    have HG := hide g1
    clear g3 hk hszu g1
    go_enter Tryd.func29, Tryd.ntmps29
    go_wp2_with fail
    refine (arrow_any x _).mono ?_
    rintro e w1 ⟨rfl, rfl⟩
    rw [HK.out]
    go_wp2_with fail
    refine (arrow_any x _).mono ?_
    rintro e w1 ⟨rfl, rfl⟩
    rw [HK.out]
    go_wp2_with fail
    refine (one_any k _).mono ?_
    rintro e w2 ⟨rfl, rfl⟩
    have HD2 := hide (HD1.out.alloc (.cells #[.int .i64 k, .int .i32 0, .string ⟨#[]⟩] 26))
    go_wp2_with fail
    refine (done_any D _ _ _ HD2.out).mono ?_
    rintro e w3 ⟨rfl, rfl⟩
    go_wp2_with fail
    go_ret
    rw [HR.out]
    have hown := (lit_own (k := ⟨k, 0, ⟨#[]⟩⟩) HX1.out.size).off HD2.out decKey 0 (.iface 9 (.string ⟨#[]⟩))
    rw [World.size_alloc] at hown
    exact sp_of (wk_mk hown (fun e => by cases e) (HD2.out.set 0 _) (ex_set (ex_alloc HX1.out _) _ _))
  · have t1 : (((s ++ strOfNums [x]).extract 2 (s.size + 1)).toList == [49, 126]) = b1 := str_eqK (by rw [← hszu]; exact e1)
    have t2 : (((s ++ strOfNums [x]).extract 2 (s.size + 1)).toList == [55, 126]) = b2 := str_eqK (by rw [← hszu]; exact e2)
    have t3 : (((s ++ strOfNums [x]).extract 2 (s.size + 1)).toList == [52, 126]) = b3 := str_eqK (by rw [← hszu]; exact e3)
    have t4 : (((s ++ strOfNums [x]).extract 2 (s.size + 1)).toList == [56, 126]) = b4 := str_eqK (by rw [← hszu]; exact e4)
    have t5 : (((s ++ strOfNums [x]).extract 2 (s.size + 1)).toList == [51, 126]) = b5 := str_eqK (by rw [← hszu]; exact e5)
    clear e1 e2 e3 e4 e5 hk hszu
    by_cases hs2 : s.size = 2
    · obtain rfl : k = 0 := by omega
      have hone : s.size + 1 - 2 = 1 := by omega
      have HG := hide hs2
      clear g1 hs2
      cases b1
      case true =>
        have HR := hide (HS0.out (kOne 12) g3)
        clear g3
        go_enter Tryd.func29, Tryd.ntmps29
        go_wp2_with fail
        refine (arrow_any x _).mono ?_
        rintro e w1 ⟨rfl, rfl⟩
        rw [HK.out]
        go_wp2_with fail
        refine (one_any 12 _).mono ?_
        rintro e w2 ⟨rfl, rfl⟩
        have HD2 := hide (HD1.out.alloc (.cells #[.int .i64 12, .int .i32 0, .string ⟨#[]⟩] 26))
        go_wp2_with fail
        refine (done_any D _ _ _ HD2.out).mono ?_
        rintro e w3 ⟨rfl, rfl⟩
        go_wp2_with fail
        go_ret
        rw [HR.out]
        have hown := (lit_own (k := ⟨12, 0, ⟨#[]⟩⟩) HX1.out.size).off HD2.out decKey 0 (.iface 9 (.string ⟨#[]⟩))
        rw [World.size_alloc] at hown
        exact sp_of (wk_mk hown (fun e => by cases e) (HD2.out.set 0 _) (ex_set (ex_alloc HX1.out _) _ _))
      cases b2
      case true =>
        have HR := hide (HS0.out (kOne 12) g3)
        clear g3
        go_enter Tryd.func29, Tryd.ntmps29
        go_wp2_with fail
        refine (arrow_any x _).mono ?_
        rintro e w1 ⟨rfl, rfl⟩
        rw [HK.out]
        go_wp2_with fail
        refine (one_any 12 _).mono ?_
        rintro e w2 ⟨rfl, rfl⟩
        have HD2 := hide (HD1.out.alloc (.cells #[.int .i64 12, .int .i32 0, .string ⟨#[]⟩] 26))
        go_wp2_with fail
        refine (done_any D _ _ _ HD2.out).mono ?_
        rintro e w3 ⟨rfl, rfl⟩
        go_wp2_with fail
        go_ret
        rw [HR.out]
        have hown := (lit_own (k := ⟨12, 0, ⟨#[]⟩⟩) HX1.out.size).off HD2.out decKey 0 (.iface 9 (.string ⟨#[]⟩))
        rw [World.size_alloc] at hown
        exact sp_of (wk_mk hown (fun e => by cases e) (HD2.out.set 0 _) (ex_set (ex_alloc HX1.out _) _ _))
      cases b3
      case true =>
        have HR := hide (HS0.out (kOne 13) g3)
        clear g3
        go_enter Tryd.func29, Tryd.ntmps29
        go_wp2_with fail
        refine (arrow_any x _).mono ?_
        rintro e w1 ⟨rfl, rfl⟩
        rw [HK.out]
        go_wp2_with fail
        refine (one_any 13 _).mono ?_
        rintro e w2 ⟨rfl, rfl⟩
        have HD2 := hide (HD1.out.alloc (.cells #[.int .i64 13, .int .i32 0, .string ⟨#[]⟩] 26))
        go_wp2_with fail
        refine (done_any D _ _ _ HD2.out).mono ?_
        rintro e w3 ⟨rfl, rfl⟩
        go_wp2_with fail
        go_ret
        rw [HR.out]
        have hown := (lit_own (k := ⟨13, 0, ⟨#[]⟩⟩) HX1.out.size).off HD2.out decKey 0 (.iface 9 (.string ⟨#[]⟩))
        rw [World.size_alloc] at hown
        exact sp_of (wk_mk hown (fun e => by cases e) (HD2.out.set 0 _) (ex_set (ex_alloc HX1.out _) _ _))
      cases b4
      case true =>
        have HR := hide (HS0.out (kOne 13) g3)
        clear g3
        go_enter Tryd.func29, Tryd.ntmps29
        go_wp2_with fail
        refine (arrow_any x _).mono ?_
        rintro e w1 ⟨rfl, rfl⟩
        rw [HK.out]
        go_wp2_with fail
        refine (one_any 13 _).mono ?_
        rintro e w2 ⟨rfl, rfl⟩
        have HD2 := hide (HD1.out.alloc (.cells #[.int .i64 13, .int .i32 0, .string ⟨#[]⟩] 26))
        go_wp2_with fail
        refine (done_any D _ _ _ HD2.out).mono ?_
        rintro e w3 ⟨rfl, rfl⟩
        go_wp2_with fail
        go_ret
        rw [HR.out]
        have hown := (lit_own (k := ⟨13, 0, ⟨#[]⟩⟩) HX1.out.size).off HD2.out decKey 0 (.iface 9 (.string ⟨#[]⟩))
        rw [World.size_alloc] at hown
        exact sp_of (wk_mk hown (fun e => by cases e) (HD2.out.set 0 _) (ex_set (ex_alloc HX1.out _) _ _))
      cases b5
      case true =>
        have HR := hide (HS0.out (kOne 14) g3)
        clear g3
        go_enter Tryd.func29, Tryd.ntmps29
        go_wp2_with fail
        refine (arrow_any x _).mono ?_
        rintro e w1 ⟨rfl, rfl⟩
        rw [HK.out]
        go_wp2_with fail
        refine (one_any 14 _).mono ?_
        rintro e w2 ⟨rfl, rfl⟩
        have HD2 := hide (HD1.out.alloc (.cells #[.int .i64 14, .int .i32 0, .string ⟨#[]⟩] 26))
        go_wp2_with fail
        refine (done_any D _ _ _ HD2.out).mono ?_
        rintro e w3 ⟨rfl, rfl⟩
        go_wp2_with fail
        go_ret
        rw [HR.out]
        have hown := (lit_own (k := ⟨14, 0, ⟨#[]⟩⟩) HX1.out.size).off HD2.out decKey 0 (.iface 9 (.string ⟨#[]⟩))
        rw [World.size_alloc] at hown
        exact sp_of (wk_mk hown (fun e => by cases e) (HD2.out.set 0 _) (ex_set (ex_alloc HX1.out _) _ _))
      have HR := hide (HS0.out (kBad (s ++ strOfNums [x])) g3)
      clear g3
      go_enter Tryd.func29, Tryd.ntmps29
      go_wp2_with fail
      refine (arrow_any x _).mono ?_
      rintro e w1 ⟨rfl, rfl⟩
      rw [HK.out]
      go_wp2_with fail
      refine (invalid_any _ _).mono ?_
      rintro e w2 ⟨rfl, rfl⟩
      have HD2 := hide (HD1.out.alloc (.cells #[.int .i64 0, .int .i32 0, .string (s ++ strOfNums [x])] 26))
      go_wp2_with fail
      refine (done_any D _ _ _ HD2.out).mono ?_
      rintro e w3 ⟨rfl, rfl⟩
      go_wp2_with fail
      go_ret
      rw [HR.out]
      have hown := (lit_own (k := ⟨0, 0, (s ++ strOfNums [x])⟩) HX1.out.size).off HD2.out decKey 0 (.iface 9 (.string ⟨#[]⟩))
      rw [World.size_alloc] at hown
      exact sp_of (wk_mk hown (fun e => by cases e) (HD2.out.set 0 _) (ex_set (ex_alloc HX1.out _) _ _))
    · have hone : ¬ s.size + 1 - 2 = 1 := by omega
      have hone2 : (((s.size + 1 - 2 : Nat) : Int) == 1) = false := by simp; omega
      clear g1 hs2
      cases b1
      case true =>
        have HR := hide (HS0.out (kOne 12) g3)
        clear g3
        go_enter Tryd.func29, Tryd.ntmps29
        go_wp2_with fail
        refine (one_any 12 _).mono ?_
        rintro e w2 ⟨rfl, rfl⟩
        have HD2 := hide (HD1.out.alloc (.cells #[.int .i64 12, .int .i32 0, .string ⟨#[]⟩] 26))
        go_wp2_with fail
        refine (done_any D _ _ _ HD2.out).mono ?_
        rintro e w3 ⟨rfl, rfl⟩
        go_wp2_with fail
        go_ret
        rw [HR.out]
        have hown := (lit_own (k := ⟨12, 0, ⟨#[]⟩⟩) HX1.out.size).off HD2.out decKey 0 (.iface 9 (.string ⟨#[]⟩))
        rw [World.size_alloc] at hown
        exact sp_of (wk_mk hown (fun e => by cases e) (HD2.out.set 0 _) (ex_set (ex_alloc HX1.out _) _ _))
      cases b2
      case true =>
        have HR := hide (HS0.out (kOne 12) g3)
        clear g3
        go_enter Tryd.func29, Tryd.ntmps29
        go_wp2_with fail
        refine (one_any 12 _).mono ?_
        rintro e w2 ⟨rfl, rfl⟩
        have HD2 := hide (HD1.out.alloc (.cells #[.int .i64 12, .int .i32 0, .string ⟨#[]⟩] 26))
        go_wp2_with fail
        refine (done_any D _ _ _ HD2.out).mono ?_
        rintro e w3 ⟨rfl, rfl⟩
        go_wp2_with fail
        go_ret
        rw [HR.out]
        have hown := (lit_own (k := ⟨12, 0, ⟨#[]⟩⟩) HX1.out.size).off HD2.out decKey 0 (.iface 9 (.string ⟨#[]⟩))
        rw [World.size_alloc] at hown
        exact sp_of (wk_mk hown (fun e => by cases e) (HD2.out.set 0 _) (ex_set (ex_alloc HX1.out _) _ _))
      cases b3
      case true =>
        have HR := hide (HS0.out (kOne 13) g3)
        clear g3
        go_enter Tryd.func29, Tryd.ntmps29
        go_wp2_with fail
        refine (one_any 13 _).mono ?_
        rintro e w2 ⟨rfl, rfl⟩
        have HD2 := hide (HD1.out.alloc (.cells #[.int .i64 13, .int .i32 0, .string ⟨#[]⟩] 26))
        go_wp2_with fail
        refine (done_any D _ _ _ HD2.out).mono ?_
        rintro e w3 ⟨rfl, rfl⟩
        go_wp2_with fail
        go_ret
        rw [HR.out]
        have hown := (lit_own (k := ⟨13, 0, ⟨#[]⟩⟩) HX1.out.size).off HD2.out decKey 0 (.iface 9 (.string ⟨#[]⟩))
        rw [World.size_alloc] at hown
        exact sp_of (wk_mk hown (fun e => by cases e) (HD2.out.set 0 _) (ex_set (ex_alloc HX1.out _) _ _))
      cases b4
      case true =>
        have HR := hide (HS0.out (kOne 13) g3)
        clear g3
        go_enter Tryd.func29, Tryd.ntmps29
        go_wp2_with fail
        refine (one_any 13 _).mono ?_
        rintro e w2 ⟨rfl, rfl⟩
        have HD2 := hide (HD1.out.alloc (.cells #[.int .i64 13, .int .i32 0, .string ⟨#[]⟩] 26))
        go_wp2_with fail
        refine (done_any D _ _ _ HD2.out).mono ?_
        rintro e w3 ⟨rfl, rfl⟩
        go_wp2_with fail
        go_ret
        rw [HR.out]
        have hown := (lit_own (k := ⟨13, 0, ⟨#[]⟩⟩) HX1.out.size).off HD2.out decKey 0 (.iface 9 (.string ⟨#[]⟩))
        rw [World.size_alloc] at hown
        exact sp_of (wk_mk hown (fun e => by cases e) (HD2.out.set 0 _) (ex_set (ex_alloc HX1.out _) _ _))
      cases b5
      case true =>
        have HR := hide (HS0.out (kOne 14) g3)
        clear g3
        go_enter Tryd.func29, Tryd.ntmps29
        go_wp2_with fail
        refine (one_any 14 _).mono ?_
        rintro e w2 ⟨rfl, rfl⟩
        have HD2 := hide (HD1.out.alloc (.cells #[.int .i64 14, .int .i32 0, .string ⟨#[]⟩] 26))
        go_wp2_with fail
        refine (done_any D _ _ _ HD2.out).mono ?_
        rintro e w3 ⟨rfl, rfl⟩
        go_wp2_with fail
        go_ret
        rw [HR.out]
        have hown := (lit_own (k := ⟨14, 0, ⟨#[]⟩⟩) HX1.out.size).off HD2.out decKey 0 (.iface 9 (.string ⟨#[]⟩))
        rw [World.size_alloc] at hown
        exact sp_of (wk_mk hown (fun e => by cases e) (HD2.out.set 0 _) (ex_set (ex_alloc HX1.out _) _ _))
      have HR := hide (HS0.out (kBad (s ++ strOfNums [x])) g3)
      clear g3
      go_enter Tryd.func29, Tryd.ntmps29
      go_wp2_with fail
      refine (invalid_any _ _).mono ?_
      rintro e w2 ⟨rfl, rfl⟩
      have HD2 := hide (HD1.out.alloc (.cells #[.int .i64 0, .int .i32 0, .string (s ++ strOfNums [x])] 26))
      go_wp2_with fail
      refine (done_any D _ _ _ HD2.out).mono ?_
      rintro e w3 ⟨rfl, rfl⟩
      go_wp2_with fail
      go_ret
      rw [HR.out]
      have hown := (lit_own (k := ⟨0, 0, (s ++ strOfNums [x])⟩) HX1.out.size).off HD2.out decKey 0 (.iface 9 (.string ⟨#[]⟩))
      rw [World.size_alloc] at hown
      exact sp_of (wk_mk hown (fun e => by cases e) (HD2.out.set 0 _) (ex_set (ex_alloc HX1.out _) _ _))
/-- Contract of sequence. -/
theorem seq_any (D : Nat) (c : Value) (s : ByteArray) (x : Int) (w : World) (hT : UTabs w) (h0 : 0 ≤ x) (h1 : x ≤ 255) (hs : SafeB D) (hz : 2 ≤ s.size) (hz9 : s.size ≤ 1000000) (h : Blk w D 46 [c]) :
    Calls Tryd.prog 29 #[.pointer (some ⟨D, 0, none⟩), .string s, .int .u8 x] w (SPost D (seqK s x) w) := by
  by_cases hx : x < 32 ∨ 127 ≤ x
  · exact seq_low D c s x w hT h0 h1 hs hz hz9 hx h
  by_cases hx2 : x < 64
  · exact seq_mid D c s x w h0 h1 hz hz9 (by omega) hx2 h
  by_cases hb : (s ++ strOfNums [x]).extract 2 (s ++ strOfNums [x]).size = beginS
  · exact seq_paste D c s x w h0 h1 hz hz9 (by omega) (by omega) hb h
  · exact seq_done D c s x w h0 h1 hz hz9 (by omega) (by omega) hb h
end Go.Proofs.YtiilgeinkocanaaDoor
