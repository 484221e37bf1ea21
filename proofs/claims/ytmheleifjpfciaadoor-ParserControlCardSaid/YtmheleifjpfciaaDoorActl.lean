/- The walk of limnerlaw07.ParserControl. -/
import Derived.Test.YtmheleifjpfciaaDoorAparts
import Derived.Deep.DeepFit
namespace Go.Proofs.YtmheleifjpfciaaDoor
open Go.RowKit

theorem run_ctl {a : Nat} {t : ByteArray} {c : UInt8} (ha : a = 2 ∨ a = 3) (h1 : c.toNat < 27) (h2 : c.toNat ≠ 24) (h3 : c.toNat ≠ 26) : feed (a, t) c.toNat = ((a, t), [⟨2, c.toNat, [], 0⟩]) := by
  rcases ha with rfl | rfl
  · rw [feed_2]; exact seq_ctl (by omega) (by omega) (by omega) (by omega)
  · rw [feed_3]; exact seq_ctl (by omega) (by omega) (by omega) (by omega)
/-- A control within a sequence. -/
theorem ctl_within {x : Pt} (hx : PtOk x) {k : Nat} (h1 : 1 ≤ k) (hk : k < (csiB x).length) {c : UInt8} (hc1 : c.toNat < 27) (hc2 : c.toNat ≠ 24) (hc3 : c.toNat ≠ 26) :
    (runL (0, ⟨#[]⟩) ((csiB x).take k ++ [c] ++ (csiB x).drop k)).2 = [⟨2, c.toNat, [], 0⟩, csiA x] := by
  have ha := csi_asks hx
  unfold Asks at ha
  have hlen : (csiB x).length = (ptk (numsN x.ps) (numsN x.ps).length).length + 3 := by unfold csiB; simp
  have e : (csiB x).take k = ([27, 91] ++ ptk (numsN x.ps) (numsN x.ps).length).take k := by
    unfold csiB
    rw [List.take_append_of_le_length (by simp; omega)]
  obtain ⟨a, t, h23, hr⟩ := csi_within (T := ptk (numsN x.ps) (numsN x.ps).length) (ptk_low _ _) h1 (k := k) (by omega)
  rw [← e] at hr
  have hsplit : (csiB x) = (csiB x).take k ++ (csiB x).drop k := (List.take_append_drop _ _).symm
  rw [hsplit, runL_app, hr] at ha
  rw [runL_app, runL_app, hr]
  simp only [runL, run_ctl h23 hc1 hc2 hc3, List.append_nil, List.nil_append] at ha ⊢
  rw [(Prod.mk.inj ha).2]
  rfl
def ctlB (c : Int) : Int := if c % 27 = 24 ∨ c % 27 = 26 then 7 else c % 27
theorem csi_size (x : Pt) : 3 ≤ (csiB x).length ∧ (csiB x).length ≤ 100 := by
  have h := ptB_len { x with k := 2 }
  have e : ptB { x with k := 2 } = csiB { x with k := 2 } := by unfold ptB; rw [if_neg (show ¬ (2 : Int) % 4 = 1 by decide), if_pos (show (2 : Int) % 4 = 2 by decide)]
  rw [e] at h
  exact ⟨by unfold csiB; simp, h⟩
theorem conv_cell (W : World) (g : Nat) (a : Int) (h : W.cell? ⟨g, 0, none⟩ = some (.int .u8 a)) : (convert 46 9 (.slice (some ⟨g, 0, none⟩) 1 1)).run Tryd.prog W = .ok (.string (strOfNums [a])) W := by
  refine run_convert_bytes_arg (P := Tryd.prog) _ 46 5 Tryd.underlying46 Tryd.underlying5 g 0 1 1 [a] rfl (fun i hi => ?_) 9 Tryd.underlying9
  obtain rfl : i = 0 := by omega
  simpa using h
theorem csi_any (r n : Int) (ps : List Int) (pv : Value) (w : World) (hx : PtOk ⟨2, r, n, ps⟩) (hp : PsAt w pv ps) :
    Calls Tryd.prog 13 #[.agg #[.int .u8 2, .int .i32 r, .int .u8 n, pv]] w (BytesPost w (csiB ⟨2, r, n, ps⟩) (csiA ⟨2, r, n, ps⟩)) := by
  have h := bytes_any ⟨2, r, n, ps⟩ pv w hx hp
  have e1 : ptB ⟨2, r, n, ps⟩ = csiB ⟨2, r, n, ps⟩ := by unfold ptB; rw [if_neg (show ¬ (2 : Int) % 4 = 1 by decide), if_pos (show (2 : Int) % 4 = 2 by decide)]
  have e2 : ptA ⟨2, r, n, ps⟩ = csiA ⟨2, r, n, ps⟩ := by unfold ptA; rw [if_neg (show ¬ (2 : Int) % 4 = 1 by decide), if_pos (show (2 : Int) % 4 = 2 by decide)]
  rw [e1, e2] at h
  exact h
theorem ctl_bytes {x : Pt} (hx : PtOk x) {k : Nat} {c : Int} (h1 : 1 ≤ k) (hk : k < (csiB x).length) (h0 : 0 ≤ c) (hc1 : c < 27) (hc2 : c ≠ 24) (hc3 : c ≠ 26) {s t : ByteArray} (hs : (⟨(csiB x).toArray⟩ : ByteArray) = s) (ht : (s.extract 0 k ++ strOfNums [c]) ++ s.extract k s.size = t) :
    outA t t.size = [⟨2, c, [], 0⟩, csiA x] ∧ t.size ≤ 90000 := by
  have hz := (csi_size x).2
  have e1 : (s.extract 0 k).data.toList = (csiB x).take k := by rw [← hs, ByteArray.data_extract]; simp
  have e2 : (s.extract k s.size).data.toList = (csiB x).drop k := by
    rw [← hs, ByteArray.data_extract]
    simp only [Array.toList_extract, List.extract_eq_take_drop]
    rw [List.take_of_length_le]
    rw [List.length_drop]
    show _ ≤ (csiB x).toArray.size - k
    simp
  have e3 : (strOfNums [c]).data.toList = [UInt8.ofNat c.toNat] := rfl
  have e : t.data.toList = (csiB x).take k ++ [UInt8.ofNat c.toNat] ++ (csiB x).drop k := by
    rw [← ht, ByteArray.data_append, ByteArray.data_append, Array.toList_append, Array.toList_append, e1, e2, e3]
  have hb : ((UInt8.ofNat c.toNat).toNat : Int) = c := toNat_of h0 (by omega)
  refine ⟨?_, ?_⟩
  · rw [outA_all, e, ctl_within hx h1 hk (by omega) (by omega) (by omega), hb]
  · show t.data.size ≤ 90000
    rw [← Array.length_toList, e]
    simp; omega
set_option maxRecDepth 100000 in
set_option maxHeartbeats 16000000 in
theorem ParserControl_any (k0 r n : Int) (ps : List Int) (pv : Value) (at_ c : Int) (w : World) (hT : UTabs w) (hx : PtOk ⟨k0, r, n, ps⟩) (hp : PsAt w pv ps) (ha : 0 ≤ at_ ∧ at_ ≤ 255) (hc : 0 ≤ c ∧ c ≤ 255) :
    Calls Tryd.prog 7 #[.agg #[.int .u8 k0, .int .i32 r, .int .u8 n, pv], .int .u8 at_, .int .u8 c] w fun e w' => e = .returned (.bool true) ∧ Below w.heap.size w w' := by
  have HT := hide hT
  obtain ⟨ha0, ha1⟩ := ha
  obtain ⟨hc0, hc1⟩ := hc
  have hx2 : PtOk ⟨2, r, n, ps⟩ := ⟨⟨(show (0 : Int) ≤ 2 by decide), (show (2 : Int) ≤ 255 by decide)⟩, hx.2⟩
  have HX := hide hx2
  have HBY := hide (fun W hW => csi_any r n ps pv W hx2 (hp.below hW))
  obtain ⟨hz3, hz100⟩ := csi_size ⟨2, r, n, ps⟩
  have hsz : (⟨(csiB ⟨2, r, n, ps⟩).toArray⟩ : ByteArray).size = (csiB ⟨2, r, n, ps⟩).length := by show (csiB ⟨2, r, n, ps⟩).toArray.size = _; simp
  obtain ⟨s, hs⟩ : ∃ s : ByteArray, (⟨(csiB ⟨2, r, n, ps⟩).toArray⟩ : ByteArray) = s := ⟨_, rfl⟩
  rw [hs] at hsz
  have HCTL := hide (fun (k : Nat) (d : Int) h1 hk h0 h2 h3 h4 (t : ByteArray) ht => ctl_bytes (k := k) (c := d) (t := t) hx2 h1 hk h0 h2 h3 h4 hs ht)
  have HSZ := hide hsz
  have hm3 : 3 ≤ s.size := by omega
  have hm100 : s.size ≤ 100 := by omega
  have HS := hide hs
  have hcA : csiA ⟨2, r, n, ps⟩ = ⟨3, 0, (csiA ⟨2, r, n, ps⟩).ps, 64 + n % 63⟩ := rfl
  obtain ⟨qs, hqs⟩ : ∃ qs, (csiA ⟨2, r, n, ps⟩).ps = qs := ⟨_, rfl⟩
  rw [hqs] at hcA
  have hq16 : qs.length ≤ 16 := by rw [← hqs]; simp [csiA]; exact (numsN_ok ps).2
  have HCA := hide hcA
  rw [hcA] at HBY HCTL
  have h3 := hide (((Below.refl w.heap.size w).alloc (Nat.le_refl _) (.cells #[.int .u8 2, .int .i32 r, .int .u8 n, pv] 42)))
  clear hT hx hp hx2 hs hsz hz3 hz100 hqs hcA
  go_enter Tryd.func7, Tryd.ntmps7
  go_wp2_with fail
  refine (HBY.out _ h3.out).mono ?_
  rintro e w1 ⟨qv, rfl, hnum, hb1⟩
  rw [HS.out]
  dsimp only at hnum ⊢
  obtain ⟨Q9, cq9, rfl, hcq⟩ := hnum
  have HNU : Hid (NumsV w1 (.slice Q9 qs.length cq9) qs) := hide ⟨Q9, cq9, rfl, hcq⟩
  have HW1 := hide (h3.out.trans (hb1.mono h3.out.size))
  clear hb1 hcq HBY h3
  obtain ⟨a, hae⟩ : ∃ a, at_ % ((s.size : Int) - 1) = a := ⟨_, rfl⟩
  have hat : Int.tmod at_ ((s.size : Int) - 1) = a := by rw [Int.tmod_eq_emod_of_nonneg ha0]; exact hae
  have ha2 : 0 ≤ a := by rw [← hae]; exact Int.emod_nonneg _ (by omega)
  have ha3 : a < (s.size : Int) - 1 := by rw [← hae]; exact Int.emod_lt_of_pos _ (by omega)
  obtain ⟨k, hk⟩ : ∃ k : Nat, (k : Int) = 1 + a := ⟨(1 + a).toNat, by omega⟩
  have hk1 : 1 ≤ k := by omega
  have hk2 : k < s.size := by omega
  obtain ⟨d, hd⟩ : ∃ d, c % 27 = d := ⟨_, rfl⟩
  have hd0 : 0 ≤ d := by omega
  have hd1 : d < 27 := by omega
  have hm2 : (2 : Int) ≤ (s.size : Int) - 1 := by omega
  have hnz : ¬ ((s.size : Int) - 1 = 0) := by omega
  by_cases h24 : d = 24
  · subst h24
    go_wp2
    rw [← hk]
    obtain ⟨t, ht⟩ : ∃ t, (s.extract 0 k ++ strOfNums [7]) ++ s.extract k s.size = t := ⟨_, rfl⟩
    have HO := hide (HCTL.out k 7 hk1 (by rw [← HSZ.out]; exact hk2) (by omega) (by omega) (by omega) (by omega) t ht)
    have HTT := hide ht
    have hb8 := (Below.refl w1.heap.size w1).alloc (Nat.le_refl _) (.cells #[.int .i64 3, .int .i32 0, .slice Q9 qs.length cq9, .int .u8 (64 + n % 63)] 34)
    have hB8 := Blk.new w1 34 [.int .i64 3, .int .i32 0, .slice Q9 qs.length cq9, .int .u8 (64 + n % 63)]
    obtain ⟨N8, hN8⟩ : ∃ N8, w1.heap.size = N8 := ⟨_, rfl⟩
    obtain ⟨W8, hW8⟩ : ∃ W8, w1.alloc (.cells #[.int .i64 3, .int .i32 0, .slice Q9 qs.length cq9, .int .u8 (64 + n % 63)] 34) = W8 := ⟨_, rfl⟩
    have HNU8 := hide (HNU.out.below hb8)
    have HW8 := hide (HW1.out.trans (hb8.mono HW1.out.size))
    have hB8 : Blk W8 N8 34 [.int .i64 3, .int .i32 0, .slice Q9 qs.length cq9, .int .u8 (64 + n % 63)] := by rw [← hW8, ← hN8]; exact hB8
    rw [hW8] at HNU8 HW8 ⊢
    rw [hN8]
    have q0 := hB8.cell (i := 0) rfl
    have q1 := hB8.cell (i := 1) rfl
    have q2 := hB8.cell (i := 2) rfl
    have q3 := hB8.cell (i := 3) rfl
    have hq9 := hB8.lt
    have HACT := hide (fun (W : World) (g : Nat) (hW : Below W8.heap.size W8 W) (hg : Blk W g 34 (flatA [(.slice none 0 0, ⟨2, 7, [], 0⟩), (.slice Q9 qs.length cq9, ⟨3, 0, qs, 64 + n % 63⟩)])) => is_any t (some ⟨g, 0, none⟩) 2 [⟨2, 7, [], 0⟩, ⟨3, 0, qs, 64 + n % 63⟩] W (HT.out.below (HW8.out.trans (hW.mono HW8.out.size))) HO.out.2 (flat_cells (M := [(.slice none 0 0, ⟨2, 7, [], 0⟩), (.slice Q9 qs.length cq9, ⟨3, 0, qs, 64 + n % 63⟩)]) hg (by simp) (by
      intro x hx
      simp only [List.mem_cons, List.not_mem_nil, or_false] at hx
      rcases hx with rfl | rfl
      · exact NumsV.nil _
      · exact HNU8.out.below hW)) HO.out.1 (by intro a ha; simp only [List.mem_cons, List.not_mem_nil, or_false] at ha; rcases ha with rfl | rfl; exact (by simp); exact (by show qs.length ≤ _; omega)))
    have c1 : ∀ (w : World) (a : Int), (convert 46 9 (.slice (some ⟨w.heap.size, 0, none⟩) 1 1)).run Tryd.prog ((w.alloc (.cells #[.int .u8 a] 5)).drew) = .ok (.string (strOfNums [a])) ((w.alloc (.cells #[.int .u8 a] 5)).drew) := fun w a => conv_1 w.drew a
    have c2 : ∀ (w : World) (X : Obj) (a : Int), (convert 46 9 (.slice (some ⟨w.heap.size + 1, 0, none⟩) 1 1)).run Tryd.prog (((w.alloc X).alloc (.cells #[.int .u8 a] 5)).drew) = .ok (.string (strOfNums [a])) (((w.alloc X).alloc (.cells #[.int .u8 a] 5)).drew) := fun w X a => conv_1b w.drew X a
    have c3 : ∀ (w : World) (X : Obj) (a : Int), (convert 46 9 (.slice (some ⟨w.heap.size, 0, none⟩) 1 1)).run Tryd.prog (((w.alloc (.cells #[.int .u8 a] 5)).alloc X).drew) = .ok (.string (strOfNums [a])) (((w.alloc (.cells #[.int .u8 a] 5)).alloc X).drew) := fun w X a => conv_cell _ _ _ (((Blk.new w 5 [.int .u8 a]).alloc X).cell (i := 0) rfl)
    have e1 : ((s.extract 0 k).size : Int) ≤ 100 := by simp; omega
    have e2 : ((s.extract k s.size).size : Int) ≤ 100 := by simp; omega
    have o1 : ((strOfNums [7]).size : Int) ≤ 1 := by rw [one_size]; omega
    have w7 : IntKind.i32.wrap 7 = 7 := by rw [IntKind.wrap_i32]; omega
    have k0' : (0 : Int) ≤ (k : Int) := by omega
    have k1' : (k : Int) ≤ (s.size : Int) := by omega
    have z1 : ¬ 9223372036854775807 < min k s.size + (strOfNums [7]).size := by rw [one_size]; omega
    have z2 : ¬ 9223372036854775807 < min k s.size + (strOfNums [7]).size + (s.size - k) := by rw [one_size]; omega
    have G1 := hide (show Blk ((W8.alloc (.cells #[.int .u8 7] 5)).alloc (.cells #[.int .i64 2, .int .i32 7, .slice none 0 0, .int .u8 0, .int .i64 3, .int .i32 0, .slice Q9 qs.length cq9, .int .u8 (64 + n % 63)] 34)) (W8.heap.size + 1) 34 (flatA [(.slice none 0 0, ⟨2, 7, [], 0⟩), (.slice Q9 qs.length cq9, ⟨3, 0, qs, 64 + n % 63⟩)]) by
      have h := Blk.new (W8.alloc (.cells #[.int .u8 7] 5)) 34 (flatA [(.slice none 0 0, ⟨2, 7, [], 0⟩), (.slice Q9 qs.length cq9, ⟨3, 0, qs, 64 + n % 63⟩)])
      rw [World.size_alloc] at h
      exact h)
    have G2 := hide (show Blk ((W8.alloc (.cells #[.int .i64 2, .int .i32 7, .slice none 0 0, .int .u8 0, .int .i64 3, .int .i32 0, .slice Q9 qs.length cq9, .int .u8 (64 + n % 63)] 34)).alloc (.cells #[.int .u8 7] 5)) W8.heap.size 34 (flatA [(.slice none 0 0, ⟨2, 7, [], 0⟩), (.slice Q9 qs.length cq9, ⟨3, 0, qs, 64 + n % 63⟩)]) from (Blk.new W8 34 (flatA [(.slice none 0 0, ⟨2, 7, [], 0⟩), (.slice Q9 qs.length cq9, ⟨3, 0, qs, 64 + n % 63⟩)])).alloc _)
    have BB1 := hide (((Below.refl W8.heap.size W8).alloc (Nat.le_refl _) (.cells #[.int .u8 7] 5)).alloc (by simp) (.cells #[.int .i64 2, .int .i32 7, .slice none 0 0, .int .u8 0, .int .i64 3, .int .i32 0, .slice Q9 qs.length cq9, .int .u8 (64 + n % 63)] 34))
    have BB2 := hide (((Below.refl W8.heap.size W8).alloc (Nat.le_refl _) (.cells #[.int .i64 2, .int .i32 7, .slice none 0 0, .int .u8 0, .int .i64 3, .int .i32 0, .slice Q9 qs.length cq9, .int .u8 (64 + n % 63)] 34)).alloc (by simp) (.cells #[.int .u8 7] 5))
    have C1 := hide (show Calls Tryd.prog 14 #[.string t, .slice (some ⟨W8.heap.size + 1, 0, none⟩) 2 2] (((W8.alloc (.cells #[.int .u8 7] 5)).alloc (.cells #[.int .i64 2, .int .i32 7, .slice none 0 0, .int .u8 0, .int .i64 3, .int .i32 0, .slice Q9 qs.length cq9, .int .u8 (64 + n % 63)] 34)).drew) fun e w' => e = .returned (.bool true) ∧ Below ((W8.alloc (.cells #[.int .u8 7] 5)).alloc (.cells #[.int .i64 2, .int .i32 7, .slice none 0 0, .int .u8 0, .int .i64 3, .int .i32 0, .slice Q9 qs.length cq9, .int .u8 (64 + n % 63)] 34)).drew.heap.size ((W8.alloc (.cells #[.int .u8 7] 5)).alloc (.cells #[.int .i64 2, .int .i32 7, .slice none 0 0, .int .u8 0, .int .i64 3, .int .i32 0, .slice Q9 qs.length cq9, .int .u8 (64 + n % 63)] 34)).drew w' from HACT.out _ _ BB1.out.drew G1.out.drew)
    have C2 := hide (show Calls Tryd.prog 14 #[.string t, .slice (some ⟨W8.heap.size, 0, none⟩) 2 2] (((W8.alloc (.cells #[.int .i64 2, .int .i32 7, .slice none 0 0, .int .u8 0, .int .i64 3, .int .i32 0, .slice Q9 qs.length cq9, .int .u8 (64 + n % 63)] 34)).alloc (.cells #[.int .u8 7] 5)).drew) fun e w' => e = .returned (.bool true) ∧ Below ((W8.alloc (.cells #[.int .i64 2, .int .i32 7, .slice none 0 0, .int .u8 0, .int .i64 3, .int .i32 0, .slice Q9 qs.length cq9, .int .u8 (64 + n % 63)] 34)).alloc (.cells #[.int .u8 7] 5)).drew.heap.size ((W8.alloc (.cells #[.int .i64 2, .int .i32 7, .slice none 0 0, .int .u8 0, .int .i64 3, .int .i32 0, .slice Q9 qs.length cq9, .int .u8 (64 + n % 63)] 34)).alloc (.cells #[.int .u8 7] 5)).drew w' from HACT.out _ _ BB2.out.drew G2.out.drew)
    clear HACT G1 G2
    clear hB8 hW8 hN8 hb8 ht hae hat hk hd
    go_wp2
    go_region_with (first
      | (go_at_call 14; rw [HTT.out]; ((with_reducible refine C1.out.mono ?_); rintro e w9 ⟨rfl, hb9⟩; have HW9 := hide (HW8.out.trans ((BB1.out.drew.mono HW8.out.size).trans (hb9.mono (Nat.le_trans HW8.out.size BB1.out.size)))); clear hb9))
      | (go_at_call 14; rw [HTT.out]; ((with_reducible refine C2.out.mono ?_); rintro e w9 ⟨rfl, hb9⟩; have HW9 := hide (HW8.out.trans ((BB2.out.drew.mono HW8.out.size).trans (hb9.mono (Nat.le_trans HW8.out.size BB2.out.size)))); clear hb9))
      | (go_at_call 8; refine (asked_any _ (HT.out.below HW9.out)).mono ?_; rintro e w10 ⟨rfl, hb10⟩; have HW10 := hide (HW9.out.trans (hb10.mono HW9.out.size)); clear hb10)
      | fail)
    all_goals go_wp2
    all_goals go_ret
    all_goals exact ⟨rfl, HW10.out⟩
  by_cases h26 : d = 26
  · subst h26
    go_wp2
    rw [← hk]
    obtain ⟨t, ht⟩ : ∃ t, (s.extract 0 k ++ strOfNums [7]) ++ s.extract k s.size = t := ⟨_, rfl⟩
    have HO := hide (HCTL.out k 7 hk1 (by rw [← HSZ.out]; exact hk2) (by omega) (by omega) (by omega) (by omega) t ht)
    have HTT := hide ht
    have hb8 := (Below.refl w1.heap.size w1).alloc (Nat.le_refl _) (.cells #[.int .i64 3, .int .i32 0, .slice Q9 qs.length cq9, .int .u8 (64 + n % 63)] 34)
    have hB8 := Blk.new w1 34 [.int .i64 3, .int .i32 0, .slice Q9 qs.length cq9, .int .u8 (64 + n % 63)]
    obtain ⟨N8, hN8⟩ : ∃ N8, w1.heap.size = N8 := ⟨_, rfl⟩
    obtain ⟨W8, hW8⟩ : ∃ W8, w1.alloc (.cells #[.int .i64 3, .int .i32 0, .slice Q9 qs.length cq9, .int .u8 (64 + n % 63)] 34) = W8 := ⟨_, rfl⟩
    have HNU8 := hide (HNU.out.below hb8)
    have HW8 := hide (HW1.out.trans (hb8.mono HW1.out.size))
    have hB8 : Blk W8 N8 34 [.int .i64 3, .int .i32 0, .slice Q9 qs.length cq9, .int .u8 (64 + n % 63)] := by rw [← hW8, ← hN8]; exact hB8
    rw [hW8] at HNU8 HW8 ⊢
    rw [hN8]
    have q0 := hB8.cell (i := 0) rfl
    have q1 := hB8.cell (i := 1) rfl
    have q2 := hB8.cell (i := 2) rfl
    have q3 := hB8.cell (i := 3) rfl
    have hq9 := hB8.lt
    have HACT := hide (fun (W : World) (g : Nat) (hW : Below W8.heap.size W8 W) (hg : Blk W g 34 (flatA [(.slice none 0 0, ⟨2, 7, [], 0⟩), (.slice Q9 qs.length cq9, ⟨3, 0, qs, 64 + n % 63⟩)])) => is_any t (some ⟨g, 0, none⟩) 2 [⟨2, 7, [], 0⟩, ⟨3, 0, qs, 64 + n % 63⟩] W (HT.out.below (HW8.out.trans (hW.mono HW8.out.size))) HO.out.2 (flat_cells (M := [(.slice none 0 0, ⟨2, 7, [], 0⟩), (.slice Q9 qs.length cq9, ⟨3, 0, qs, 64 + n % 63⟩)]) hg (by simp) (by
      intro x hx
      simp only [List.mem_cons, List.not_mem_nil, or_false] at hx
      rcases hx with rfl | rfl
      · exact NumsV.nil _
      · exact HNU8.out.below hW)) HO.out.1 (by intro a ha; simp only [List.mem_cons, List.not_mem_nil, or_false] at ha; rcases ha with rfl | rfl; exact (by simp); exact (by show qs.length ≤ _; omega)))
    have c1 : ∀ (w : World) (a : Int), (convert 46 9 (.slice (some ⟨w.heap.size, 0, none⟩) 1 1)).run Tryd.prog ((w.alloc (.cells #[.int .u8 a] 5)).drew) = .ok (.string (strOfNums [a])) ((w.alloc (.cells #[.int .u8 a] 5)).drew) := fun w a => conv_1 w.drew a
    have c2 : ∀ (w : World) (X : Obj) (a : Int), (convert 46 9 (.slice (some ⟨w.heap.size + 1, 0, none⟩) 1 1)).run Tryd.prog (((w.alloc X).alloc (.cells #[.int .u8 a] 5)).drew) = .ok (.string (strOfNums [a])) (((w.alloc X).alloc (.cells #[.int .u8 a] 5)).drew) := fun w X a => conv_1b w.drew X a
    have c3 : ∀ (w : World) (X : Obj) (a : Int), (convert 46 9 (.slice (some ⟨w.heap.size, 0, none⟩) 1 1)).run Tryd.prog (((w.alloc (.cells #[.int .u8 a] 5)).alloc X).drew) = .ok (.string (strOfNums [a])) (((w.alloc (.cells #[.int .u8 a] 5)).alloc X).drew) := fun w X a => conv_cell _ _ _ (((Blk.new w 5 [.int .u8 a]).alloc X).cell (i := 0) rfl)
    have e1 : ((s.extract 0 k).size : Int) ≤ 100 := by simp; omega
    have e2 : ((s.extract k s.size).size : Int) ≤ 100 := by simp; omega
    have o1 : ((strOfNums [7]).size : Int) ≤ 1 := by rw [one_size]; omega
    have w7 : IntKind.i32.wrap 7 = 7 := by rw [IntKind.wrap_i32]; omega
    have k0' : (0 : Int) ≤ (k : Int) := by omega
    have k1' : (k : Int) ≤ (s.size : Int) := by omega
    have z1 : ¬ 9223372036854775807 < min k s.size + (strOfNums [7]).size := by rw [one_size]; omega
    have z2 : ¬ 9223372036854775807 < min k s.size + (strOfNums [7]).size + (s.size - k) := by rw [one_size]; omega
    have G1 := hide (show Blk ((W8.alloc (.cells #[.int .u8 7] 5)).alloc (.cells #[.int .i64 2, .int .i32 7, .slice none 0 0, .int .u8 0, .int .i64 3, .int .i32 0, .slice Q9 qs.length cq9, .int .u8 (64 + n % 63)] 34)) (W8.heap.size + 1) 34 (flatA [(.slice none 0 0, ⟨2, 7, [], 0⟩), (.slice Q9 qs.length cq9, ⟨3, 0, qs, 64 + n % 63⟩)]) by
      have h := Blk.new (W8.alloc (.cells #[.int .u8 7] 5)) 34 (flatA [(.slice none 0 0, ⟨2, 7, [], 0⟩), (.slice Q9 qs.length cq9, ⟨3, 0, qs, 64 + n % 63⟩)])
      rw [World.size_alloc] at h
      exact h)
    have G2 := hide (show Blk ((W8.alloc (.cells #[.int .i64 2, .int .i32 7, .slice none 0 0, .int .u8 0, .int .i64 3, .int .i32 0, .slice Q9 qs.length cq9, .int .u8 (64 + n % 63)] 34)).alloc (.cells #[.int .u8 7] 5)) W8.heap.size 34 (flatA [(.slice none 0 0, ⟨2, 7, [], 0⟩), (.slice Q9 qs.length cq9, ⟨3, 0, qs, 64 + n % 63⟩)]) from (Blk.new W8 34 (flatA [(.slice none 0 0, ⟨2, 7, [], 0⟩), (.slice Q9 qs.length cq9, ⟨3, 0, qs, 64 + n % 63⟩)])).alloc _)
    have BB1 := hide (((Below.refl W8.heap.size W8).alloc (Nat.le_refl _) (.cells #[.int .u8 7] 5)).alloc (by simp) (.cells #[.int .i64 2, .int .i32 7, .slice none 0 0, .int .u8 0, .int .i64 3, .int .i32 0, .slice Q9 qs.length cq9, .int .u8 (64 + n % 63)] 34))
    have BB2 := hide (((Below.refl W8.heap.size W8).alloc (Nat.le_refl _) (.cells #[.int .i64 2, .int .i32 7, .slice none 0 0, .int .u8 0, .int .i64 3, .int .i32 0, .slice Q9 qs.length cq9, .int .u8 (64 + n % 63)] 34)).alloc (by simp) (.cells #[.int .u8 7] 5))
    have C1 := hide (show Calls Tryd.prog 14 #[.string t, .slice (some ⟨W8.heap.size + 1, 0, none⟩) 2 2] (((W8.alloc (.cells #[.int .u8 7] 5)).alloc (.cells #[.int .i64 2, .int .i32 7, .slice none 0 0, .int .u8 0, .int .i64 3, .int .i32 0, .slice Q9 qs.length cq9, .int .u8 (64 + n % 63)] 34)).drew) fun e w' => e = .returned (.bool true) ∧ Below ((W8.alloc (.cells #[.int .u8 7] 5)).alloc (.cells #[.int .i64 2, .int .i32 7, .slice none 0 0, .int .u8 0, .int .i64 3, .int .i32 0, .slice Q9 qs.length cq9, .int .u8 (64 + n % 63)] 34)).drew.heap.size ((W8.alloc (.cells #[.int .u8 7] 5)).alloc (.cells #[.int .i64 2, .int .i32 7, .slice none 0 0, .int .u8 0, .int .i64 3, .int .i32 0, .slice Q9 qs.length cq9, .int .u8 (64 + n % 63)] 34)).drew w' from HACT.out _ _ BB1.out.drew G1.out.drew)
    have C2 := hide (show Calls Tryd.prog 14 #[.string t, .slice (some ⟨W8.heap.size, 0, none⟩) 2 2] (((W8.alloc (.cells #[.int .i64 2, .int .i32 7, .slice none 0 0, .int .u8 0, .int .i64 3, .int .i32 0, .slice Q9 qs.length cq9, .int .u8 (64 + n % 63)] 34)).alloc (.cells #[.int .u8 7] 5)).drew) fun e w' => e = .returned (.bool true) ∧ Below ((W8.alloc (.cells #[.int .i64 2, .int .i32 7, .slice none 0 0, .int .u8 0, .int .i64 3, .int .i32 0, .slice Q9 qs.length cq9, .int .u8 (64 + n % 63)] 34)).alloc (.cells #[.int .u8 7] 5)).drew.heap.size ((W8.alloc (.cells #[.int .i64 2, .int .i32 7, .slice none 0 0, .int .u8 0, .int .i64 3, .int .i32 0, .slice Q9 qs.length cq9, .int .u8 (64 + n % 63)] 34)).alloc (.cells #[.int .u8 7] 5)).drew w' from HACT.out _ _ BB2.out.drew G2.out.drew)
    clear HACT G1 G2
    clear hB8 hW8 hN8 hb8 ht hae hat hk hd
    go_wp2
    go_region_with (first
      | (go_at_call 14; rw [HTT.out]; ((with_reducible refine C1.out.mono ?_); rintro e w9 ⟨rfl, hb9⟩; have HW9 := hide (HW8.out.trans ((BB1.out.drew.mono HW8.out.size).trans (hb9.mono (Nat.le_trans HW8.out.size BB1.out.size)))); clear hb9))
      | (go_at_call 14; rw [HTT.out]; ((with_reducible refine C2.out.mono ?_); rintro e w9 ⟨rfl, hb9⟩; have HW9 := hide (HW8.out.trans ((BB2.out.drew.mono HW8.out.size).trans (hb9.mono (Nat.le_trans HW8.out.size BB2.out.size)))); clear hb9))
      | (go_at_call 8; refine (asked_any _ (HT.out.below HW9.out)).mono ?_; rintro e w10 ⟨rfl, hb10⟩; have HW10 := hide (HW9.out.trans (hb10.mono HW9.out.size)); clear hb10)
      | fail)
    all_goals go_wp2
    all_goals go_ret
    all_goals exact ⟨rfl, HW10.out⟩
  · have t24 : (d == 24) = false := by simp [h24]
    have t26 : (d == 26) = false := by simp [h26]
    go_wp2
    try simp only [hd]
    rw [← hk]
    obtain ⟨t, ht⟩ : ∃ t, (s.extract 0 k ++ strOfNums [d]) ++ s.extract k s.size = t := ⟨_, rfl⟩
    have HO := hide (HCTL.out k d hk1 (by rw [← HSZ.out]; exact hk2) (by omega) (by omega) (by omega) (by omega) t ht)
    have HTT := hide ht
    have hb8 := (Below.refl w1.heap.size w1).alloc (Nat.le_refl _) (.cells #[.int .i64 3, .int .i32 0, .slice Q9 qs.length cq9, .int .u8 (64 + n % 63)] 34)
    have hB8 := Blk.new w1 34 [.int .i64 3, .int .i32 0, .slice Q9 qs.length cq9, .int .u8 (64 + n % 63)]
    obtain ⟨N8, hN8⟩ : ∃ N8, w1.heap.size = N8 := ⟨_, rfl⟩
    obtain ⟨W8, hW8⟩ : ∃ W8, w1.alloc (.cells #[.int .i64 3, .int .i32 0, .slice Q9 qs.length cq9, .int .u8 (64 + n % 63)] 34) = W8 := ⟨_, rfl⟩
    have HNU8 := hide (HNU.out.below hb8)
    have HW8 := hide (HW1.out.trans (hb8.mono HW1.out.size))
    have hB8 : Blk W8 N8 34 [.int .i64 3, .int .i32 0, .slice Q9 qs.length cq9, .int .u8 (64 + n % 63)] := by rw [← hW8, ← hN8]; exact hB8
    rw [hW8] at HNU8 HW8 ⊢
    rw [hN8]
    have q0 := hB8.cell (i := 0) rfl
    have q1 := hB8.cell (i := 1) rfl
    have q2 := hB8.cell (i := 2) rfl
    have q3 := hB8.cell (i := 3) rfl
    have hq9 := hB8.lt
    have HACT := hide (fun (W : World) (g : Nat) (hW : Below W8.heap.size W8 W) (hg : Blk W g 34 (flatA [(.slice none 0 0, ⟨2, d, [], 0⟩), (.slice Q9 qs.length cq9, ⟨3, 0, qs, 64 + n % 63⟩)])) => is_any t (some ⟨g, 0, none⟩) 2 [⟨2, d, [], 0⟩, ⟨3, 0, qs, 64 + n % 63⟩] W (HT.out.below (HW8.out.trans (hW.mono HW8.out.size))) HO.out.2 (flat_cells (M := [(.slice none 0 0, ⟨2, d, [], 0⟩), (.slice Q9 qs.length cq9, ⟨3, 0, qs, 64 + n % 63⟩)]) hg (by simp) (by
      intro x hx
      simp only [List.mem_cons, List.not_mem_nil, or_false] at hx
      rcases hx with rfl | rfl
      · exact NumsV.nil _
      · exact HNU8.out.below hW)) HO.out.1 (by intro a ha; simp only [List.mem_cons, List.not_mem_nil, or_false] at ha; rcases ha with rfl | rfl; exact (by simp); exact (by show qs.length ≤ _; omega)))
    have c1 : ∀ (w : World) (a : Int), (convert 46 9 (.slice (some ⟨w.heap.size, 0, none⟩) 1 1)).run Tryd.prog ((w.alloc (.cells #[.int .u8 a] 5)).drew) = .ok (.string (strOfNums [a])) ((w.alloc (.cells #[.int .u8 a] 5)).drew) := fun w a => conv_1 w.drew a
    have c2 : ∀ (w : World) (X : Obj) (a : Int), (convert 46 9 (.slice (some ⟨w.heap.size + 1, 0, none⟩) 1 1)).run Tryd.prog (((w.alloc X).alloc (.cells #[.int .u8 a] 5)).drew) = .ok (.string (strOfNums [a])) (((w.alloc X).alloc (.cells #[.int .u8 a] 5)).drew) := fun w X a => conv_1b w.drew X a
    have c3 : ∀ (w : World) (X : Obj) (a : Int), (convert 46 9 (.slice (some ⟨w.heap.size, 0, none⟩) 1 1)).run Tryd.prog (((w.alloc (.cells #[.int .u8 a] 5)).alloc X).drew) = .ok (.string (strOfNums [a])) (((w.alloc (.cells #[.int .u8 a] 5)).alloc X).drew) := fun w X a => conv_cell _ _ _ (((Blk.new w 5 [.int .u8 a]).alloc X).cell (i := 0) rfl)
    have e1 : ((s.extract 0 k).size : Int) ≤ 100 := by simp; omega
    have e2 : ((s.extract k s.size).size : Int) ≤ 100 := by simp; omega
    have o1 : ((strOfNums [d]).size : Int) ≤ 1 := by rw [one_size]; omega
    have w7 : IntKind.i32.wrap d = d := by rw [IntKind.wrap_i32]; omega
    have k0' : (0 : Int) ≤ (k : Int) := by omega
    have k1' : (k : Int) ≤ (s.size : Int) := by omega
    have z1 : ¬ 9223372036854775807 < min k s.size + (strOfNums [d]).size := by rw [one_size]; omega
    have z2 : ¬ 9223372036854775807 < min k s.size + (strOfNums [d]).size + (s.size - k) := by rw [one_size]; omega
    have G1 := hide (show Blk ((W8.alloc (.cells #[.int .u8 d] 5)).alloc (.cells #[.int .i64 2, .int .i32 d, .slice none 0 0, .int .u8 0, .int .i64 3, .int .i32 0, .slice Q9 qs.length cq9, .int .u8 (64 + n % 63)] 34)) (W8.heap.size + 1) 34 (flatA [(.slice none 0 0, ⟨2, d, [], 0⟩), (.slice Q9 qs.length cq9, ⟨3, 0, qs, 64 + n % 63⟩)]) by
      have h := Blk.new (W8.alloc (.cells #[.int .u8 d] 5)) 34 (flatA [(.slice none 0 0, ⟨2, d, [], 0⟩), (.slice Q9 qs.length cq9, ⟨3, 0, qs, 64 + n % 63⟩)])
      rw [World.size_alloc] at h
      exact h)
    have G2 := hide (show Blk ((W8.alloc (.cells #[.int .i64 2, .int .i32 d, .slice none 0 0, .int .u8 0, .int .i64 3, .int .i32 0, .slice Q9 qs.length cq9, .int .u8 (64 + n % 63)] 34)).alloc (.cells #[.int .u8 d] 5)) W8.heap.size 34 (flatA [(.slice none 0 0, ⟨2, d, [], 0⟩), (.slice Q9 qs.length cq9, ⟨3, 0, qs, 64 + n % 63⟩)]) from (Blk.new W8 34 (flatA [(.slice none 0 0, ⟨2, d, [], 0⟩), (.slice Q9 qs.length cq9, ⟨3, 0, qs, 64 + n % 63⟩)])).alloc _)
    have BB1 := hide (((Below.refl W8.heap.size W8).alloc (Nat.le_refl _) (.cells #[.int .u8 d] 5)).alloc (by simp) (.cells #[.int .i64 2, .int .i32 d, .slice none 0 0, .int .u8 0, .int .i64 3, .int .i32 0, .slice Q9 qs.length cq9, .int .u8 (64 + n % 63)] 34))
    have BB2 := hide (((Below.refl W8.heap.size W8).alloc (Nat.le_refl _) (.cells #[.int .i64 2, .int .i32 d, .slice none 0 0, .int .u8 0, .int .i64 3, .int .i32 0, .slice Q9 qs.length cq9, .int .u8 (64 + n % 63)] 34)).alloc (by simp) (.cells #[.int .u8 d] 5))
    have C1 := hide (show Calls Tryd.prog 14 #[.string t, .slice (some ⟨W8.heap.size + 1, 0, none⟩) 2 2] (((W8.alloc (.cells #[.int .u8 d] 5)).alloc (.cells #[.int .i64 2, .int .i32 d, .slice none 0 0, .int .u8 0, .int .i64 3, .int .i32 0, .slice Q9 qs.length cq9, .int .u8 (64 + n % 63)] 34)).drew) fun e w' => e = .returned (.bool true) ∧ Below ((W8.alloc (.cells #[.int .u8 d] 5)).alloc (.cells #[.int .i64 2, .int .i32 d, .slice none 0 0, .int .u8 0, .int .i64 3, .int .i32 0, .slice Q9 qs.length cq9, .int .u8 (64 + n % 63)] 34)).drew.heap.size ((W8.alloc (.cells #[.int .u8 d] 5)).alloc (.cells #[.int .i64 2, .int .i32 d, .slice none 0 0, .int .u8 0, .int .i64 3, .int .i32 0, .slice Q9 qs.length cq9, .int .u8 (64 + n % 63)] 34)).drew w' from HACT.out _ _ BB1.out.drew G1.out.drew)
    have C2 := hide (show Calls Tryd.prog 14 #[.string t, .slice (some ⟨W8.heap.size, 0, none⟩) 2 2] (((W8.alloc (.cells #[.int .i64 2, .int .i32 d, .slice none 0 0, .int .u8 0, .int .i64 3, .int .i32 0, .slice Q9 qs.length cq9, .int .u8 (64 + n % 63)] 34)).alloc (.cells #[.int .u8 d] 5)).drew) fun e w' => e = .returned (.bool true) ∧ Below ((W8.alloc (.cells #[.int .i64 2, .int .i32 d, .slice none 0 0, .int .u8 0, .int .i64 3, .int .i32 0, .slice Q9 qs.length cq9, .int .u8 (64 + n % 63)] 34)).alloc (.cells #[.int .u8 d] 5)).drew.heap.size ((W8.alloc (.cells #[.int .i64 2, .int .i32 d, .slice none 0 0, .int .u8 0, .int .i64 3, .int .i32 0, .slice Q9 qs.length cq9, .int .u8 (64 + n % 63)] 34)).alloc (.cells #[.int .u8 d] 5)).drew w' from HACT.out _ _ BB2.out.drew G2.out.drew)
    clear HACT G1 G2
    clear hB8 hW8 hN8 hb8 ht hae hat hk hd
    go_wp2
    go_region_with (first
      | (go_at_call 14; rw [HTT.out]; ((with_reducible refine C1.out.mono ?_); rintro e w9 ⟨rfl, hb9⟩; have HW9 := hide (HW8.out.trans ((BB1.out.drew.mono HW8.out.size).trans (hb9.mono (Nat.le_trans HW8.out.size BB1.out.size)))); clear hb9))
      | (go_at_call 14; rw [HTT.out]; ((with_reducible refine C2.out.mono ?_); rintro e w9 ⟨rfl, hb9⟩; have HW9 := hide (HW8.out.trans ((BB2.out.drew.mono HW8.out.size).trans (hb9.mono (Nat.le_trans HW8.out.size BB2.out.size)))); clear hb9))
      | (go_at_call 8; refine (asked_any _ (HT.out.below HW9.out)).mono ?_; rintro e w10 ⟨rfl, hb10⟩; have HW10 := hide (HW9.out.trans (hb10.mono HW9.out.size)); clear hb10)
      | fail)
    all_goals go_wp2
    all_goals go_ret
    all_goals exact ⟨rfl, HW10.out⟩
end Go.Proofs.YtmheleifjpfciaaDoor
