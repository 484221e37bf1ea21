/- Contracts of limnerlaw07.digits and of Part's bytes. -/
import Derived.Test.YtmheleifjpfciaaDoorApartp
import Derived.Test.YtmheleifjpfciaaDoorOpenrow
namespace Go.Proofs.YtmheleifjpfciaaDoor
open Go.RowKit

/-- codes.Put. -/
theorem aput_any (r : Int) (w : World) : Calls Tryd.prog 26 #[.int .i32 r] w fun e w' => e = .returned (.string (putS r)) ∧ w = w' := by
  have hv : Utf8.valid r = Lib.validRune r := by
    rw [Bool.eq_iff_iff]
    simp only [Utf8.valid, Lib.validRune, Bool.or_eq_true, Bool.and_eq_true, decide_eq_true_eq]
    omega
  cases h : Lib.validRune r
  · have H := hide h
    have HP := hide (show putS r = ⟨#[]⟩ by rw [putS, hv, h]; rfl)
    clear h hv
    go_enter Tryd.func26, Tryd.ntmps26
    go_wp2_with (go_at_call 33; refine (Tryd.utf8_ValidRune r _).mono ?_; rw [H.out]; rintro e w1 ⟨rfl, rfl⟩)
    go_ret
    exact ⟨ret_str HP.out.symm, rfl⟩
  · have H := hide h
    have HP := hide (show putS r = Utf8.encode r by rw [putS, hv, h]; rfl)
    clear h hv
    go_enter Tryd.func26, Tryd.ntmps26
    go_wp2_with (go_at_call 33; refine (Tryd.utf8_ValidRune r _).mono ?_; rw [H.out]; rintro e w1 ⟨rfl, rfl⟩)
    go_ret
    exact ⟨ret_str HP.out.symm, rfl⟩

theorem toArr_app (a b : List UInt8) : (⟨a.toArray⟩ ++ ⟨b.toArray⟩ : ByteArray) = ⟨(a ++ b).toArray⟩ := by
  apply ByteArray.ext
  simp [ByteArray.data_append]
theorem ones (x : Int) : strOfNums [x] = ⟨[UInt8.ofNat x.toNat].toArray⟩ := rfl
set_option maxHeartbeats 1000000 in
theorem digits_any (n : Nat) (hn : n ≤ 9999) : ∀ w : World, Calls Tryd.prog 25 #[.int .i64 n] w fun e w' => e = .returned (.string ⟨(digL n).toArray⟩) ∧ Below w.heap.size w w' := by
  induction n using Nat.strongRecOn with
  | ind n ih =>
    intro w
    have c1 := conv_1
    have h0 : (0 : Int) ≤ (n : Int) := by omega
    have h9 : (n : Int) ≤ 9999 := by omega
    have hw : IntKind.u8.wrap (48 + (n : Int) % 10) = 48 + (n : Int) % 10 := by simp only [IntKind.wrap_u8]; omega
    by_cases h10 : n < 10
    · have HD := hide (show digL n = [UInt8.ofNat (48 + n)] by unfold digL; rw [if_pos h10])
      clear ih
      go_enter Tryd.func25, Tryd.ntmps25
      go_wp2
      go_ret
      refine ⟨ret_str ?_, (Below.refl _ _).alloc (Nat.le_refl _) _⟩
      rw [HD.out, ones, show (48 + (n : Int) % 10).toNat = 48 + n by omega]
    · have HD := hide (show digL n = digL (n / 10) ++ [UInt8.ofNat (48 + n % 10)] by rw [digL]; rw [if_neg h10])
      have HI := hide (fun W => ih (n / 10) (by omega) (by omega) W)
      rw [Int.natCast_ediv] at HI
      obtain ⟨t, ht⟩ : ∃ t : ByteArray, (⟨(digL (n / 10)).toArray⟩ : ByteArray) = t := ⟨_, rfl⟩
      have hz : (t.size : Int) ≤ 10 := by
        rw [← ht]
        show (((digL (n / 10)).toArray.size : Nat) : Int) ≤ 10
        have := (digL_len (n / 10)).2 (by omega)
        simp; omega
      rw [ht] at HI
      have HT := hide ht
      have o1 : ((strOfNums [48 + (n : Int) % 10]).size : Int) ≤ 1 := by rw [one_size]; omega
      clear ih ht
      go_enter Tryd.func25, Tryd.ntmps25
      go_wp2_with (first | (go_at_call 25; refine (HI.out _).mono ?_; rintro e w1 ⟨rfl, hb1⟩) | fail)
      go_ret
      refine ⟨ret_str ?_, ((Below.refl _ _).alloc (Nat.le_refl _) _).trans (hb1.mono (by simp))⟩
      rw [HD.out, ones, ← HT.out, toArr_app, show (48 + (n : Int) % 10).toNat = 48 + n % 10 by omega]

/-- A part, as its cells have it. -/
structure Pt where
  k : Int
  r : Int
  n : Int
  ps : List Int
def ctlN (n : Int) : Int := if n % 32 = 27 then 127 else n % 32
def escN (n : Int) : Int := if 48 + n % 79 = 91 then 99 else 48 + n % 79
def runeN (r : Int) : Int := if putS r = ⟨#[]⟩ ∨ r < 32 ∨ r = 127 then 26085 else r
def numsN (ps : List Int) : List Nat := (ps.take 16).map fun x => (x % 8192).toNat
def csiB (x : Pt) : List UInt8 := [27, 91] ++ ptk (numsN x.ps) (numsN x.ps).length ++ [UInt8.ofNat (64 + x.n % 63).toNat]
def csiA (x : Pt) : Ac := ⟨3, 0, (numsN x.ps).map (fun n : Nat => (n : Int)), 64 + x.n % 63⟩
def ptB (x : Pt) : List UInt8 := if x.k % 4 = 1 then [UInt8.ofNat (ctlN x.n).toNat] else if x.k % 4 = 2 then csiB x else if x.k % 4 = 3 then [27, UInt8.ofNat (escN x.n).toNat] else (putS (runeN x.r)).data.toList
def ptA (x : Pt) : Ac := if x.k % 4 = 1 then ⟨2, ctlN x.n, [], 0⟩ else if x.k % 4 = 2 then csiA x else if x.k % 4 = 3 then ⟨4, 0, [], escN x.n⟩ else ⟨1, runeN x.r, [], 0⟩
def PtOk (x : Pt) : Prop := (0 ≤ x.k ∧ x.k ≤ 255) ∧ (0 ≤ x.n ∧ x.n ≤ 255) ∧ (-2147483648 ≤ x.r ∧ x.r ≤ 2147483647) ∧ ∀ p ∈ x.ps, -9223372036854775808 ≤ p ∧ p ≤ 9223372036854775807
theorem toNat_of {x : Int} (h0 : 0 ≤ x) (h1 : x ≤ 255) : (((UInt8.ofNat x.toNat).toNat : Nat) : Int) = x := by rw [ofNat_toNat (by omega)]; omega
theorem runeN_ok (r : Int) : ((0 ≤ runeN r ∧ runeN r < 55296) ∨ (57344 ≤ runeN r ∧ runeN r ≤ 1114111)) ∧ 32 ≤ runeN r ∧ runeN r ≠ 127 := by
  unfold runeN
  split
  · omega
  · rename_i h
    have h1 : putS r ≠ ⟨#[]⟩ := fun e => h (.inl e)
    rcases put_cases r with ⟨e, b⟩ | ⟨e, b⟩ | ⟨e, b⟩ | ⟨e, b⟩ | ⟨e, b⟩
    · exact absurd e h1
    all_goals omega
theorem numsN_ok (ps : List Int) : (∀ n ∈ numsN ps, n ≤ 9999) ∧ (numsN ps).length ≤ 16 := by
  refine ⟨fun n hn => ?_, by simp [numsN]; omega⟩
  simp only [numsN, List.mem_map] at hn
  obtain ⟨x, _, rfl⟩ := hn
  omega
theorem csi_asks {x : Pt} (h : PtOk x) : Asks (csiB x) (csiA x) := by
  obtain ⟨h1, h2⟩ := numsN_ok x.ps
  have hn := h.2.1
  have e := asks_csi (ptk_low (numsN x.ps) (numsN x.ps).length) (params_ptk _ h1 h2) (c := UInt8.ofNat (64 + x.n % 63).toNat) (by rw [ofNat_toNat (by omega)]; omega) (by rw [ofNat_toNat (by omega)]; omega)
  rw [toNat_of (by omega) (by omega)] at e
  exact e
theorem pt_asks {x : Pt} (h : PtOk x) : Asks (ptB x) (ptA x) := by
  have hn := h.2.1
  unfold ptB ptA
  by_cases h1 : x.k % 4 = 1
  · rw [if_pos h1, if_pos h1]
    have hc : 0 ≤ ctlN x.n ∧ ctlN x.n ≤ 127 ∧ ctlN x.n ≠ 27 ∧ (ctlN x.n < 32 ∨ ctlN x.n = 127) := by unfold ctlN; split <;> omega
    have e := asks_ctl (c := UInt8.ofNat (ctlN x.n).toNat) (by rw [ofNat_toNat (by omega)]; omega) (by rw [ofNat_toNat (by omega)]; omega)
    rw [toNat_of (by omega) (by omega)] at e
    exact e
  rw [if_neg h1, if_neg h1]
  by_cases h2 : x.k % 4 = 2
  · rw [if_pos h2, if_pos h2]; exact csi_asks h
  rw [if_neg h2, if_neg h2]
  by_cases h3 : x.k % 4 = 3
  · rw [if_pos h3, if_pos h3]
    have hc : 48 ≤ escN x.n ∧ escN x.n < 127 ∧ escN x.n ≠ 91 := by unfold escN; split <;> omega
    have e := asks_esc (c := UInt8.ofNat (escN x.n).toNat) (by rw [ofNat_toNat (by omega)]; omega) (by rw [ofNat_toNat (by omega)]; omega) (by rw [ofNat_toNat (by omega)]; omega)
    rw [toNat_of (by omega) (by omega)] at e
    exact e
  · rw [if_neg h3, if_neg h3]
    obtain ⟨a, b, c⟩ := runeN_ok x.r
    exact asks_rune a b c
/-- Where a part's numbers lie. -/
def PsAt (W : World) (v : Value) (ps : List Int) : Prop := ∃ A cap, v = .slice A ps.length cap ∧ ps.length ≤ cap ∧ cap ≤ maxLen ∧ RowOf W 1 (fun x => [Value.int .i64 x]) A ps
theorem PsAt.below {w W : World} {v : Value} {ps : List Int} (h : PsAt w v ps) (hb : Below w.heap.size w W) : PsAt W v ps := by
  obtain ⟨A, cap, e, h1, h2, h3⟩ := h
  exact ⟨A, cap, e, h1, h2, h3.below hb⟩
/-- What a part's bytes are, as handed back. -/
def BytesPost (w : World) (l : List UInt8) (a : Ac) (e : Ending) (w' : World) : Prop :=
  ∃ pv, e = .returned (.tuple #[.string ⟨l.toArray⟩, .agg #[.int .i64 a.kind, .int .i32 a.r, pv, .int .u8 a.fin]]) ∧ NumsV w' pv a.ps ∧ Below w.heap.size w w'
theorem bytes_mk {w W : World} {l : List UInt8} {a : Ac} {s : ByteArray} {k r f : Int} {pv : Value} (hs : s = ⟨l.toArray⟩) (hk : a.kind = k) (hr : a.r = r) (hf : a.fin = f) (hn : NumsV W pv a.ps) (hb : Below w.heap.size w W) : BytesPost w l a (.returned (.tuple #[.string s, .agg #[.int .i64 k, .int .i32 r, pv, .int .u8 f]])) W := by
  subst hs hk hr hf; exact ⟨pv, rfl, hn, hb⟩
theorem and_8191 (y : Int) : bits .and .i64 y 8191 = (((y % 8192).toNat : Nat) : Int) := by
  unfold bits
  simp only [BitVec.toNat_and, BitVec.toNat_ofInt]
  have e : ((8191 : Int) % ((2 ^ IntKind.i64.bits : Nat) : Int)).toNat = 2 ^ 13 - 1 := by decide
  have e2 : ((2 ^ IntKind.i64.bits : Nat) : Int) = 18446744073709551616 := by decide
  rw [e, Nat.and_two_pow_sub_one_eq_mod, e2]
  rw [Go.wrap_small _ (by omega) (by omega)]
  omega
/-- Where things lie while a sequence's text is made. -/
def CsS (w : World) (x : Pt) (pv : Value) (L : List Nat) (j : Nat) (qv : Value) (W : World) : Prop :=
  Blk W w.heap.size 42 [.int .u8 x.k, .int .i32 x.r, .int .u8 x.n, pv] ∧ Blk W (w.heap.size + 1) 34 [.int .i64 0, .int .i32 0, .slice none 0 0, .int .u8 0] ∧ Blk W (w.heap.size + 1 + 1) 34 [.int .i64 3, .int .i32 0, qv, .int .u8 (64 + x.n % 63)] ∧ W.ownsRow (w.heap.size + 1 + 1 + 1) 3 1 qv j (ints ((L.take j).map fun n : Nat => (n : Int))) ∧ Below w.heap.size w W
theorem CsS.below {w W W' : World} {x : Pt} {pv qv : Value} {L : List Nat} {j : Nat} (h : CsS w x pv L j qv W) (hb : Below W.heap.size W W') : CsS w x pv L j qv W' :=
  ⟨h.1.below hb, h.2.1.below hb, h.2.2.1.below hb, own_belowA h.2.2.2.1 hb, h.2.2.2.2.trans (hb.mono h.2.2.2.2.size)⟩
theorem CsS.start (w : World) (x : Pt) (pv : Value) (L : List Nat) : CsS w x pv L 0 (.slice none 0 0) (((w.alloc (.cells #[.int .u8 x.k, .int .i32 x.r, .int .u8 x.n, pv] 42)).alloc (.cells #[.int .i64 0, .int .i32 0, .slice none 0 0, .int .u8 0] 34)).alloc (.cells #[.int .i64 3, .int .i32 0, .slice none 0 0, .int .u8 (64 + x.n % 63)] 34)) := by
  obtain ⟨w1, h1⟩ : ∃ w1, w.alloc (.cells #[.int .u8 x.k, .int .i32 x.r, .int .u8 x.n, pv] 42) = w1 := ⟨_, rfl⟩
  obtain ⟨w2, h2⟩ : ∃ w2, w1.alloc (.cells #[.int .i64 0, .int .i32 0, .slice none 0 0, .int .u8 0] 34) = w2 := ⟨_, rfl⟩
  obtain ⟨w3, h3⟩ : ∃ w3, w2.alloc (.cells #[.int .i64 3, .int .i32 0, .slice none 0 0, .int .u8 (64 + x.n % 63)] 34) = w3 := ⟨_, rfl⟩
  rw [h1, h2, h3]
  have s1 : w1.heap.size = w.heap.size + 1 := by rw [← h1]; simp
  have s2 : w2.heap.size = w.heap.size + 1 + 1 := by rw [← h2, World.size_alloc, s1]
  have b1 : Below w.heap.size w w1 := by rw [← h1]; exact (Below.refl _ _).alloc (Nat.le_refl _) _
  have b2 : Below w1.heap.size w1 w2 := by rw [← h2]; exact (Below.refl _ _).alloc (Nat.le_refl _) _
  have b3 : Below w2.heap.size w2 w3 := by rw [← h3]; exact (Below.refl _ _).alloc (Nat.le_refl _) _
  have a1 : Blk w1 w.heap.size 42 [.int .u8 x.k, .int .i32 x.r, .int .u8 x.n, pv] := by rw [← h1]; exact Blk.new _ _ _
  have a2 : Blk w2 w1.heap.size 34 [.int .i64 0, .int .i32 0, .slice none 0 0, .int .u8 0] := by rw [← h2]; exact Blk.new _ _ _
  have a3 : Blk w3 w2.heap.size 34 [.int .i64 3, .int .i32 0, .slice none 0 0, .int .u8 (64 + x.n % 63)] := by rw [← h3]; exact Blk.new _ _ _
  rw [s1] at a2
  rw [s2] at a3
  exact ⟨(a1.below b2).below b3, a2.below b3, a3, World.ownsRow_nil _ _ _ _, (b1.trans (b2.mono (by omega))).trans (b3.mono (by omega))⟩
theorem CsS.app {w W W1 : World} {x : Pt} {pv qv v1 : Value} {L : List Nat} {j : Nat} {ob : Obj} (h : CsS w x pv L j qv W) (hg : (W.alloc ob).grownBy W1 qv.ownBlock) (hj : j < L.length)
    (hown : W1.ownsRow (w.heap.size + 1 + 1 + 1) 3 1 v1 (j + 1) (ints ((L.take j).map fun n : Nat => (n : Int)) ++ [.int .i64 ((L[j] : Nat) : Int)])) : CsS w x pv L (j + 1) v1 (W1.setCell ⟨w.heap.size + 1 + 1, 2, none⟩ v1) ∧ Blk W1 (w.heap.size + 1 + 1) 34 [.int .i64 3, .int .i32 0, qv, .int .u8 (64 + x.n % 63)] := by
  obtain ⟨h1, h2, h3, h4, h5⟩ := h
  have hlt := h3.lt
  have hb : Below (w.heap.size + 1 + 1 + 1) W W1 := ((Below.refl _ W).alloc (by omega) ob).grown hg (by simp; omega) (fun k e => (h4.lt k e).1)
  have k1 := h1.under hb (by omega)
  have k2 := h2.under hb (by omega)
  have k3 := h3.under hb (by omega)
  refine ⟨⟨k1.far (p := ⟨w.heap.size + 1 + 1, 2, none⟩) (by simp; try omega) _, k2.far (p := ⟨w.heap.size + 1 + 1, 2, none⟩) (by simp; try omega) _, k3.set 2 v1, ?_, (h5.trans (hb.mono (by omega))).setCell (p := ⟨w.heap.size + 1 + 1, 2, none⟩) (by simp; try omega) _⟩, k3⟩
  have e : ints ((L.take (j + 1)).map fun n : Nat => (n : Int)) = ints ((L.take j).map fun n : Nat => (n : Int)) ++ [.int .i64 ((L[j] : Nat) : Int)] := by
    rw [List.take_succ_eq_append_getElem hj, List.map_append, ints_app]; rfl
  rw [e]
  refine ⟨hown.1, ?_⟩
  rcases hown.2 with h0 | ⟨g, cap, cur, rfl, hg9, hh, q⟩
  · exact .inl h0
  · exact .inr ⟨g, cap, cur, rfl, hg9, (Below.heap_setCell _ _ _ _ (by simp; omega)).trans hh, q⟩
def CsT (w : World) (x : Pt) (L : List Nat) (j : Nat) (qv : Value) (W : World) : Prop :=
  Blk W (w.heap.size + 1 + 1) 34 [.int .i64 3, .int .i32 0, qv, .int .u8 (64 + x.n % 63)] ∧ W.ownsRow (w.heap.size + 1 + 1 + 1) 3 1 qv j (ints ((L.take j).map fun n : Nat => (n : Int))) ∧ Below w.heap.size w W
theorem CsT.keep {w W W' : World} {x : Pt} {L : List Nat} {j : Nat} {qv : Value} (h : CsT w x L j qv W) (hb : Below W.heap.size W W') : W'.cell? ⟨w.heap.size + 1 + 1, 0, none⟩ = some (.int .i64 3) ∧ W'.cell? ⟨w.heap.size + 1 + 1, 1, none⟩ = some (.int .i32 0) ∧ W'.cell? ⟨w.heap.size + 1 + 1, 2, none⟩ = some qv ∧ W'.cell? ⟨w.heap.size + 1 + 1, 3, none⟩ = some (.int .u8 (64 + x.n % 63)) ∧ Hid (CsT w x L j qv W') := by
  have h1 := h.1.below hb
  exact ⟨h1.cell rfl, h1.cell rfl, h1.cell rfl, h1.cell rfl, hide ⟨h1, own_belowA h.2.1 hb, h.2.2.trans (hb.mono h.2.2.size)⟩⟩
theorem CsT.far {w W : World} {x : Pt} {L : List Nat} {j : Nat} {qv : Value} (h : CsT w x L j qv W) (i : Nat) (v : Value) : CsT w x L j qv (W.setCell ⟨w.heap.size + 1, i, none⟩ v) := by
  refine ⟨h.1.far (p := ⟨w.heap.size + 1, i, none⟩) (by simp) _, ?_, h.2.2.setCell (p := ⟨w.heap.size + 1, i, none⟩) (by simp) _⟩
  refine ⟨h.2.1.1, ?_⟩
  rcases h.2.1.2 with h0 | ⟨g, cap, cur, rfl, hg9, hh, q⟩
  · exact .inl h0
  · exact .inr ⟨g, cap, cur, rfl, hg9, (Below.heap_setCell _ _ _ _ (by simp; omega)).trans hh, q⟩
theorem blk_set4 {W : World} {b : Nat} {t : TypeId} {a c d e : Value} (h : Blk W b t [a, c, d, e]) (x y z u : Value) : Blk ((((W.setCell ⟨b, 0, none⟩ x).setCell ⟨b, 1, none⟩ y).setCell ⟨b, 2, none⟩ z).setCell ⟨b, 3, none⟩ u) b t [x, y, z, u] := (((h.set 0 x).set 1 y).set 2 z).set 3 u
set_option maxRecDepth 100000 in
set_option maxHeartbeats 4000000 in
theorem bytes_csi (x : Pt) (pv : Value) (w : World) (hx : PtOk x) (hp : PsAt w pv x.ps) (h2 : x.k % 4 = 2) :
    Calls Tryd.prog 13 #[.agg #[.int .u8 x.k, .int .i32 x.r, .int .u8 x.n, pv]] w (BytesPost w (ptB x) (ptA x)) := by
  have hPB := hide (show ptB x = csiB x by unfold ptB; rw [if_neg (by omega), if_pos h2])
  have hPA := hide (show ptA x = csiA x by unfold ptA; rw [if_neg (by omega), if_pos h2])
  obtain ⟨⟨hk0, hk1⟩, ⟨hn0, hn1⟩, ⟨hr0, hr1⟩, hps⟩ := hx
  obtain ⟨hL1, hL2⟩ := numsN_ok x.ps
  have HLN := hide (show ∀ j, j < (numsN x.ps).length → ∃ y, x.ps[j]? = some y ∧ (numsN x.ps)[j]? = some (y % 8192).toNat by
    intro j hj
    have h9 : j < x.ps.length ∧ j < 16 := by simp [numsN] at hj; omega
    refine ⟨x.ps[j], List.getElem?_eq_getElem h9.1, ?_⟩
    unfold numsN
    rw [List.getElem?_map, List.getElem?_take_of_lt h9.2, List.getElem?_eq_getElem h9.1]; rfl)
  have hlen : (numsN x.ps).length = min 16 x.ps.length := by simp [numsN]
  obtain ⟨k, r, n, ps⟩ := x
  dsimp only at *
  have HCB := hide (show csiB ⟨k, r, n, ps⟩ = [27, 91] ++ ptk (numsN ps) (numsN ps).length ++ [UInt8.ofNat (64 + n % 63).toNat] from rfl)
  have HCA := hide (show csiA ⟨k, r, n, ps⟩ = ⟨3, 0, (numsN ps).map (fun n : Nat => (n : Int)), 64 + n % 63⟩ from rfl)
  obtain ⟨L, hL⟩ : ∃ L, numsN ps = L := ⟨_, rfl⟩
  rw [hL] at hL1 hL2 hlen HLN HCB HCA
  have HS0 := hide (CsS.start w ⟨k, r, n, ps⟩ pv L)
  have HP := hide hp
  have HPS := hide hps
  have HL1 := hide hL1
  obtain ⟨i0, hi, hz0, hz1, hz2⟩ := info_parts info_intA
  have t1 : (k % 4 == 1) = false := by simp [h2]
  have t2 : (k % 4 == 2) = true := by simp [h2]
  have HLEN := hide hlen
  clear hL h2 hp hps hL1 hlen
  go_enter Tryd.func13, Tryd.ntmps13
  go_wp2
  go_loopw [6, 8] (fun sv i wr => ∃ (j : Nat) (qv : Value), j ≤ L.length ∧ i = .int .i64 j ∧ sv = .string ⟨([27, 91] ++ ptk L j).toArray⟩ ∧ Hid (CsS w ⟨k, r, n, ps⟩ pv L j qv wr)) (fun _ i _ => L.length - (intOf i).toNat)
  case atStart => exact ⟨0, _, Nat.zero_le _, rfl, rfl, HS0⟩
  case round =>
    clear HS0
    obtain ⟨j, qv, hj, rfl, rfl, HS⟩ := hrel
    have hp2 := HP.out.below HS.out.2.2.2.2
    obtain ⟨A, cap, hpv, hcap1, hcap2, hrow⟩ := hp2
    subst hpv
    have hc3 := HS.out.1.cell (i := 3) rfl
    have q0 := HS.out.2.2.1.cell (i := 0) rfl
    have q1 := HS.out.2.2.1.cell (i := 1) rfl
    have q2 := HS.out.2.2.1.cell (i := 2) rfl
    have q3 := HS.out.2.2.1.cell (i := 3) rfl
    unfold maxLen at hcap2
    by_cases hlt : j < L.length
    · obtain ⟨y, hy1, hy2⟩ := HLN.out j hlt
      obtain ⟨b, o, rfl, -, hcel⟩ := hrow j y hy1
      have hcy := hcel 0 (.int .i64 y) rfl
      simp only [Nat.mul_one, Nat.add_zero] at hcy
      have hyb := HPS.out y (List.mem_of_getElem? hy1)
      have hHY := hide hy2
      have j1 : (j : Int) < (ps.length : Int) := by have := HLEN.out; omega
      have j2 : (j : Int) < 16 := by have := HLEN.out; omega
      have j0 : (0 : Int) ≤ (j : Int) := by omega
      clear hcel hrow hy1 hy2
      obtain ⟨v, hv⟩ : ∃ v, (y % 8192).toNat = v := ⟨_, rfl⟩
      have hbt : bits .and .i64 y 8191 = (v : Int) := by rw [and_8191, hv]
      rw [hv] at hHY
      have hv9 : v ≤ 9999 := by omega
      have hLj : L[j] = v := by have := hHY.out; rw [List.getElem?_eq_getElem hlt] at this; exact Option.some.inj this
      have HLJ := hide hLj
      have HD := hide (fun W => digits_any v hv9 W)
      have hdl : ((⟨(digL v).toArray⟩ : ByteArray).size : Int) ≤ 10 := by show (((digL v).toArray.size : Nat) : Int) ≤ 10; have := (digL_len v).2 (by omega); simp; omega
      obtain ⟨dg, hdg⟩ : ∃ dg : ByteArray, (⟨(digL v).toArray⟩ : ByteArray) = dg := ⟨_, rfl⟩
      rw [hdg] at HD hdl
      have hpl := ptk_len L HL1.out j
      have hts : ((⟨([27, 91] ++ ptk L j).toArray⟩ : ByteArray).size : Int) ≤ 100 := by show ((([27, 91] ++ ptk L j).toArray.size : Nat) : Int) ≤ 100; simp; omega
      obtain ⟨t, ht⟩ : ∃ t : ByteArray, (⟨([27, 91] ++ ptk L j).toArray⟩ : ByteArray) = t := ⟨_, rfl⟩
      rw [ht] at hts ⊢
      have HT := hide ht
      have HDG := hide hdg
      have HSD := hide (show ⟨([27, 91] ++ ptk L (j + 1)).toArray⟩ = t ++ (if 0 < j then ⟨#[59]⟩ else ByteArray.empty) ++ dg by
        have e0 : ptk L (j + 1) = ptk L j ++ (if 0 < j then [59] else []) ++ digL v := by
          show ptk L j ++ (if 0 < j then [59] else []) ++ digL (L.getD j 0) = _
          rw [List.getD_eq_getElem?_getD, hHY.out]; rfl
        rw [e0, ← HT.out, ← HDG.out]
        split
        · rw [show (⟨#[59]⟩ : ByteArray) = ⟨[59].toArray⟩ from rfl, toArr_app, toArr_app]; simp
        · rw [ByteArray.append_empty, toArr_app]; simp)
      have hown := HS.out.2.2.2.1
      have hw9 := HS.out.2.2.1.lt
      clear hv ht hdg hLj hpl hyb
      by_cases hj0 : 0 < j
      all_goals
        go_wp2_with (first
          | (go_at_call 25; refine (HD.out _).mono ?_; rintro e w1 ⟨rfl, hb1⟩; replace HS := hide (HS.out.below hb1); replace hown := HS.out.2.2.2.1; replace q0 := HS.out.2.2.1.cell (i := 0) rfl; replace q2 := HS.out.2.2.1.cell (i := 2) rfl; have hw9 := HS.out.2.2.1.lt; clear hb1 HD)
          | (at_builtin; refine wpList_append_own _ rfl _ _ 32 rfl (w.heap.size + 1 + 1 + 1) 3 i0 (.int .i64 0) 1 8 Tryd.underlying32 hi hz0 hz1 hz2 rfl (by decide) _ _ _ rfl (hown.alloc _) ⟨w1.heap.size, 0, none⟩ 1 1 [.int .i64 v] rfl rfl (cell_one_new _ _ _) (by simp [Value.oneCell']) (by unfold maxLen; omega) (by omega) (by simp; omega) ?_; intro v' w5 hown1 hgrow1 _; obtain ⟨A9, c9, rfl⟩ := own_formA hown1; have hap := HS.out.app hgrow1 hlt (by rw [HLJ.out]; exact hown1); have HAP := hide hap.1; have p2 := hap.2.cell (i := 2) rfl; have p2f := hap.2.frozen 2; clear hap hown1 hgrow1 hown q0 q2)
          | fail)
        go_roundw
        case rel =>
          refine ⟨j + 1, _, by omega, by go_num, ?_, HAP⟩
          rw [HSD.out]
          first | rw [if_pos hj0] | rw [if_neg hj0, ByteArray.append_empty]
        case measure => simp [intOf]; omega
    · obtain rfl : j = L.length := by omega
      have hL16 : L.length ≤ 16 := hL2
      obtain ⟨nl, hnl⟩ : ∃ nl, L.length = nl := ⟨_, rfl⟩
      have hts : ((⟨([27, 91] ++ ptk L nl).toArray⟩ : ByteArray).size : Int) ≤ 100 := by
        have hpl := ptk_len L HL1.out nl
        show ((([27, 91] ++ ptk L nl).toArray.size : Nat) : Int) ≤ 100; simp; omega
      rw [hnl] at HLEN hlt hL16 HS HCB ⊢
      obtain ⟨t, ht⟩ : ∃ t : ByteArray, (⟨([27, 91] ++ ptk L nl).toArray⟩ : ByteArray) = t := ⟨_, rfl⟩
      rw [ht] at hts ⊢
      have HT := hide ht
      have HNL := hide hnl
      have o1 : ((strOfNums [64 + n % 63]).size : Int) ≤ 1 := by rw [one_size]; omega
      have c1 : ∀ (w : World) (a : Int), (convert 46 9 (.slice (some ⟨w.heap.size, 0, none⟩) 1 1)).run Tryd.prog ((w.alloc (.cells #[.int .u8 a] 5)).drew) = .ok (.string (strOfNums [a])) ((w.alloc (.cells #[.int .u8 a] 5)).drew) := fun w a => conv_1 w.drew a
      obtain ⟨Q9, cq9, hqv⟩ := own_formA HS.out.2.2.2.1
      subst hqv
      have hw9 := HS.out.2.2.1.lt
      have hw8 : w.heap.size + 1 < wr.heap.size := by omega
      have hsz9 : ¬ 9223372036854775807 < t.size + (strOfNums [64 + n % 63]).size := by rw [one_size]; omega
      have z0 := HS.out.2.1.cell (i := 0) rfl
      have z1 := HS.out.2.1.cell (i := 1) rfl
      have z2 := HS.out.2.1.cell (i := 2) rfl
      have z3 := HS.out.2.1.cell (i := 3) rfl
      have y0 := HS.out.2.1.frozen 0
      have y1 := HS.out.2.1.frozen 1
      have y2 := HS.out.2.1.frozen 2
      have y3 := HS.out.2.1.frozen 3
      have HCT := hide (show CsT w ⟨k, r, n, ps⟩ L nl (.slice Q9 nl cq9) wr from ⟨HS.out.2.2.1, HS.out.2.2.2.1, HS.out.2.2.2.2⟩)
      have hal := ((Below.refl wr.heap.size wr).alloc (Nat.le_refl _) (.cells #[.int .u8 (64 + n % 63)] 5)).drew
      have HCT5 := hide (CsT.keep HCT.out hal).2.2.2.2.out
      have HCT6 := hide (CsT.keep HCT.out ((Below.refl _ _).drew)).2.2.2.2.out
      have HZ5 := hide (HS.out.2.1.below hal)
      clear ht hnl hlt hrow hal
      by_cases hjm : nl < ps.length
      · have j1 : (nl : Int) < (ps.length : Int) := by omega
        have j2 : ¬ (nl : Int) < 16 := by have := HLEN.out; omega
        go_wp2
        go_region
        all_goals
          have HZ := hide ((blk_set4 HS.out.2.1 (.int .i64 3) (.int .i32 0) (.slice Q9 nl cq9) (.int .u8 (64 + n % 63))).alloc (.cells #[.int .u8 (64 + n % 63)] 5))
          have HC9 := hide (CsT.keep ((((HCT.out.far 0 (.int .i64 3)).far 1 (.int .i32 0)).far 2 (.slice Q9 nl cq9)).far 3 (.int .u8 (64 + n % 63))) (((Below.refl _ _).alloc (Nat.le_refl _) (.cells #[.int .u8 (64 + n % 63)] 5)).drew)).2.2.2.2.out
          clear q0 q1 q2 q3 z0 z1 z2 z3 y0 y1 y2 y3
          go_wp2
          have r0 := HZ.out.drew.cell (i := 0) rfl
          have r1 := HZ.out.drew.cell (i := 1) rfl
          have r2 := HZ.out.drew.cell (i := 2) rfl
          have r3 := HZ.out.drew.cell (i := 3) rfl
          refine bodyPost_ret (v := .tuple #[.string (t ++ strOfNums [64 + n % 63]), .agg #[.int .i64 3, .int .i32 0, .slice Q9 nl cq9, .int .u8 (64 + n % 63)]]) ?_ rfl ?_
          · simp [results, Tryd.results13, go_sem, r0, r1, r2, r3]
          · refine bytes_mk ?_ (by rw [hPA.out, HCA.out]) (by rw [hPA.out, HCA.out]) (by rw [hPA.out, HCA.out]) ?_ HC9.out.2.2
            · rw [hPB.out, HCB.out, ← HT.out, ones, toArr_app]
            · rw [hPA.out, HCA.out]
              have hown := HC9.out.2.1
              rw [List.take_of_length_le (by rw [HNL.out]; exact Nat.le_refl _)] at hown
              have hl9 : (L.map fun n : Nat => (n : Int)).length = nl := by rw [List.length_map, HNL.out]
              rw [← hl9] at hown
              have hq9 := nums_of_own hown
              rw [hl9] at hq9
              exact hq9
      · have j1 : ¬ (nl : Int) < (ps.length : Int) := by omega
        go_wp2
        go_region
        all_goals
          have HZ := hide ((blk_set4 HS.out.2.1 (.int .i64 3) (.int .i32 0) (.slice Q9 nl cq9) (.int .u8 (64 + n % 63))).alloc (.cells #[.int .u8 (64 + n % 63)] 5))
          have HC9 := hide (CsT.keep ((((HCT.out.far 0 (.int .i64 3)).far 1 (.int .i32 0)).far 2 (.slice Q9 nl cq9)).far 3 (.int .u8 (64 + n % 63))) (((Below.refl _ _).alloc (Nat.le_refl _) (.cells #[.int .u8 (64 + n % 63)] 5)).drew)).2.2.2.2.out
          clear q0 q1 q2 q3 z0 z1 z2 z3 y0 y1 y2 y3
          go_wp2
          have r0 := HZ.out.drew.cell (i := 0) rfl
          have r1 := HZ.out.drew.cell (i := 1) rfl
          have r2 := HZ.out.drew.cell (i := 2) rfl
          have r3 := HZ.out.drew.cell (i := 3) rfl
          refine bodyPost_ret (v := .tuple #[.string (t ++ strOfNums [64 + n % 63]), .agg #[.int .i64 3, .int .i32 0, .slice Q9 nl cq9, .int .u8 (64 + n % 63)]]) ?_ rfl ?_
          · simp [results, Tryd.results13, go_sem, r0, r1, r2, r3]
          · refine bytes_mk ?_ (by rw [hPA.out, HCA.out]) (by rw [hPA.out, HCA.out]) (by rw [hPA.out, HCA.out]) ?_ HC9.out.2.2
            · rw [hPB.out, HCB.out, ← HT.out, ones, toArr_app]
            · rw [hPA.out, HCA.out]
              have hown := HC9.out.2.1
              rw [List.take_of_length_le (by rw [HNL.out]; exact Nat.le_refl _)] at hown
              have hl9 : (L.map fun n : Nat => (n : Int)).length = nl := by rw [List.length_map, HNL.out]
              rw [← hl9] at hown
              have hq9 := nums_of_own hown
              rw [hl9] at hq9
              exact hq9
set_option maxRecDepth 100000 in
set_option maxHeartbeats 4000000 in
theorem bytes_any (x : Pt) (pv : Value) (w : World) (hx : PtOk x) (hp : PsAt w pv x.ps) :
    Calls Tryd.prog 13 #[.agg #[.int .u8 x.k, .int .i32 x.r, .int .u8 x.n, pv]] w (BytesPost w (ptB x) (ptA x)) := by
  obtain ⟨⟨hk0, hk1⟩, ⟨hn0, hn1⟩, ⟨hr0, hr1⟩, hps⟩ := hx
  have c1 := conv_1d
  by_cases h1 : x.k % 4 = 1
  · have HB := hide (show ptB x = [UInt8.ofNat (ctlN x.n).toNat] by unfold ptB; rw [if_pos h1])
    have HA := hide (show ptA x = ⟨2, ctlN x.n, [], 0⟩ by unfold ptA; rw [if_pos h1])
    obtain ⟨k, r, n, ps⟩ := x
    dsimp only at *
    have hc := hide (show ctlN n = if n % 32 = 27 then 127 else n % 32 from rfl)
    have t1 : (k % 4 == 1) = true := by simp [h1]
    clear h1
    by_cases h27 : n % 32 = 27
    · have t2 : (n % 32 == 27) = true := by simp [h27]
      have HC := hide (show ctlN n = 127 by rw [hc.out, if_pos h27])
      clear hc h27
      go_enter Tryd.func13, Tryd.ntmps13
      go_wp2
      refine bodyPost_ret (v := .tuple #[.string (strOfNums [127]), .agg #[.int .i64 2, .int .i32 127, .slice none 0 0, .int .u8 0]]) ?_ rfl ?_
      · simp [results, Tryd.results13, go_sem]
      · exact bytes_mk (by rw [HB.out, HC.out]; rfl) (by rw [HA.out]) (by rw [HA.out, HC.out]) (by rw [HA.out]) (by rw [HA.out]; exact NumsV.nil _) ((((Below.refl _ _).alloc (Nat.le_refl _) _).alloc (by simp) _).alloc (by simp; omega) _)
    · have t2 : (n % 32 == 27) = false := by simp [h27]
      have HC := hide (show ctlN n = n % 32 by rw [hc.out, if_neg h27])
      clear hc h27
      go_enter Tryd.func13, Tryd.ntmps13
      go_wp2
      refine bodyPost_ret (v := .tuple #[.string (strOfNums [n % 32]), .agg #[.int .i64 2, .int .i32 (n % 32), .slice none 0 0, .int .u8 0]]) ?_ rfl ?_
      · simp [results, Tryd.results13, go_sem]
      · exact bytes_mk (by rw [HB.out, HC.out]; rfl) (by rw [HA.out]) (by rw [HA.out, HC.out]) (by rw [HA.out]) (by rw [HA.out]; exact NumsV.nil _) ((((Below.refl _ _).alloc (Nat.le_refl _) _).alloc (by simp) _).alloc (by simp; omega) _)
  by_cases h2 : x.k % 4 = 2
  · exact bytes_csi x pv w ⟨⟨hk0, hk1⟩, ⟨hn0, hn1⟩, ⟨hr0, hr1⟩, hps⟩ hp h2
  by_cases h3 : x.k % 4 = 3
  · have HB := hide (show ptB x = [27, UInt8.ofNat (escN x.n).toNat] by unfold ptB; rw [if_neg h1, if_neg h2, if_pos h3])
    have HA := hide (show ptA x = ⟨4, 0, [], escN x.n⟩ by unfold ptA; rw [if_neg h1, if_neg h2, if_pos h3])
    obtain ⟨k, r, n, ps⟩ := x
    dsimp only at *
    have hc := hide (show escN n = if 48 + n % 79 = 91 then 99 else 48 + n % 79 from rfl)
    have t1 : (k % 4 == 1) = false := by simp [h1]
    have t2 : (k % 4 == 2) = false := by simp [h2]
    have t3 : (k % 4 == 3) = true := by simp [h3]
    clear h1 h2 h3
    by_cases h27 : 48 + n % 79 = 91
    · have t4 : (48 + n % 79 == 91) = true := by simp [h27]
      have HC := hide (show escN n = 99 by rw [hc.out, if_pos h27])
      have o1 : ((strOfNums [99]).size : Int) ≤ 1 := by rw [one_size]; omega
      clear hc h27
      go_enter Tryd.func13, Tryd.ntmps13
      go_wp2
      refine bodyPost_ret (v := .tuple #[.string (⟨#[27]⟩ ++ strOfNums [99]), .agg #[.int .i64 4, .int .i32 0, .slice none 0 0, .int .u8 99]]) ?_ rfl ?_
      · simp [results, Tryd.results13, go_sem]
      · exact bytes_mk (by rw [HB.out, HC.out]; rfl) (by rw [HA.out]) (by rw [HA.out]) (by rw [HA.out, HC.out]) (by rw [HA.out]; exact NumsV.nil _) ((((Below.refl _ _).alloc (Nat.le_refl _) _).alloc (by simp) _).alloc (by simp; omega) _)
    · have t4 : (48 + n % 79 == 91) = false := by simp [h27]
      have HC := hide (show escN n = 48 + n % 79 by rw [hc.out, if_neg h27])
      have o1 : ((strOfNums [48 + n % 79]).size : Int) ≤ 1 := by rw [one_size]; omega
      clear hc h27
      go_enter Tryd.func13, Tryd.ntmps13
      go_wp2
      refine bodyPost_ret (v := .tuple #[.string (⟨#[27]⟩ ++ strOfNums [48 + n % 79]), .agg #[.int .i64 4, .int .i32 0, .slice none 0 0, .int .u8 (48 + n % 79)]]) ?_ rfl ?_
      · simp [results, Tryd.results13, go_sem]
      · exact bytes_mk (by rw [HB.out, HC.out, ones]; exact toArr_app [27] _) (by rw [HA.out]) (by rw [HA.out]) (by rw [HA.out, HC.out]) (by rw [HA.out]; exact NumsV.nil _) ((((Below.refl _ _).alloc (Nat.le_refl _) _).alloc (by simp) _).alloc (by simp; omega) _)
  have HB := hide (show ptB x = (putS (runeN x.r)).data.toList by unfold ptB; rw [if_neg h1, if_neg h2, if_neg h3])
  have HA := hide (show ptA x = ⟨1, runeN x.r, [], 0⟩ by unfold ptA; rw [if_neg h1, if_neg h2, if_neg h3])
  obtain ⟨k, r, n, ps⟩ := x
  dsimp only at *
  have t1 : (k % 4 == 1) = false := by simp [h1]
  have t2 : (k % 4 == 2) = false := by simp [h2]
  have t3 : (k % 4 == 3) = false := by simp [h3]
  have hc := hide (show runeN r = if putS r = ⟨#[]⟩ ∨ r < 32 ∨ r = 127 then 26085 else r from rfl)
  have HP1 := hide (aput_any r)
  have HP2 := hide (aput_any 26085)
  clear h1 h2 h3
  by_cases h4 : putS r = ⟨#[]⟩
  · have HC := hide (show runeN r = 26085 by rw [hc.out, if_pos (.inl h4)])
    rw [h4] at HP1
    obtain ⟨p, hp9⟩ : ∃ p, putS 26085 = p := ⟨_, rfl⟩
    rw [hp9] at HP2
    have HP9 := hide hp9
    clear h4 hc hp9
    go_enter Tryd.func13, Tryd.ntmps13
    go_wp2_with fail
    refine (HP1.out _).mono ?_
    rintro e w1 ⟨rfl, rfl⟩
    go_wp2_with fail
    refine (HP2.out _).mono ?_
    rintro e w1 ⟨rfl, rfl⟩
    go_wp2
    refine bodyPost_ret (v := .tuple #[.string p, .agg #[.int .i64 1, .int .i32 26085, .slice none 0 0, .int .u8 0]]) ?_ rfl ?_
    · simp [results, Tryd.results13, go_sem]
    · exact bytes_mk (by rw [HB.out, HC.out]; rw [HP9.out]) (by rw [HA.out]) (by rw [HA.out, HC.out]) (by rw [HA.out]) (by rw [HA.out]; exact NumsV.nil _) (((Below.refl _ _).alloc (Nat.le_refl _) _).alloc (by simp) _)
  have hne : (putS r).toList.isEmpty = false := str_nonempty (by rcases Nat.eq_zero_or_pos (putS r).size with e | e; exact absurd (size0 e) h4; exact e)
  obtain ⟨q, hq9⟩ : ∃ q, putS r = q := ⟨_, rfl⟩
  rw [hq9] at HP1 hne
  have HQ9 := hide hq9
  by_cases h5 : r < 32
  · have HC := hide (show runeN r = 26085 by rw [hc.out, if_pos (.inr (.inl h5))])
    obtain ⟨p, hp9⟩ : ∃ p, putS 26085 = p := ⟨_, rfl⟩
    rw [hp9] at HP2
    have HP9 := hide hp9
    clear h4 hc hp9 hq9
    go_enter Tryd.func13, Tryd.ntmps13
    go_wp2_with fail
    refine (HP1.out _).mono ?_
    rintro e w1 ⟨rfl, rfl⟩
    go_wp2_with fail
    refine (HP2.out _).mono ?_
    rintro e w1 ⟨rfl, rfl⟩
    go_wp2
    refine bodyPost_ret (v := .tuple #[.string p, .agg #[.int .i64 1, .int .i32 26085, .slice none 0 0, .int .u8 0]]) ?_ rfl ?_
    · simp [results, Tryd.results13, go_sem]
    · exact bytes_mk (by rw [HB.out, HC.out]; rw [HP9.out]) (by rw [HA.out]) (by rw [HA.out, HC.out]) (by rw [HA.out]) (by rw [HA.out]; exact NumsV.nil _) (((Below.refl _ _).alloc (Nat.le_refl _) _).alloc (by simp) _)
  by_cases h6 : r = 127
  · have HC := hide (show runeN r = 26085 by rw [hc.out, if_pos (.inr (.inr h6))])
    obtain ⟨p, hp9⟩ : ∃ p, putS 26085 = p := ⟨_, rfl⟩
    rw [hp9] at HP2
    have HP9 := hide hp9
    have t4 : (r == 127) = true := by simp [h6]
    have h5' : 32 ≤ r := by omega
    clear h4 hc hp9 hq9 h6
    go_enter Tryd.func13, Tryd.ntmps13
    go_wp2_with fail
    refine (HP1.out _).mono ?_
    rintro e w1 ⟨rfl, rfl⟩
    go_wp2_with fail
    refine (HP2.out _).mono ?_
    rintro e w1 ⟨rfl, rfl⟩
    go_wp2
    refine bodyPost_ret (v := .tuple #[.string p, .agg #[.int .i64 1, .int .i32 26085, .slice none 0 0, .int .u8 0]]) ?_ rfl ?_
    · simp [results, Tryd.results13, go_sem]
    · exact bytes_mk (by rw [HB.out, HC.out]; rw [HP9.out]) (by rw [HA.out]) (by rw [HA.out, HC.out]) (by rw [HA.out]) (by rw [HA.out]; exact NumsV.nil _) (((Below.refl _ _).alloc (Nat.le_refl _) _).alloc (by simp) _)
  · have HC := hide (show runeN r = r by rw [hc.out, if_neg (by rintro (h | h | h); exact h4 h; exact h5 h; exact h6 h)])
    have t4 : (r == 127) = false := by simp [h6]
    have h5' : 32 ≤ r := by omega
    clear h4 hc hq9 h6
    go_enter Tryd.func13, Tryd.ntmps13
    go_wp2_with fail
    refine (HP1.out _).mono ?_
    rintro e w1 ⟨rfl, rfl⟩
    go_wp2_with fail
    refine (HP1.out _).mono ?_
    rintro e w1 ⟨rfl, rfl⟩
    go_wp2
    refine bodyPost_ret (v := .tuple #[.string q, .agg #[.int .i64 1, .int .i32 r, .slice none 0 0, .int .u8 0]]) ?_ rfl ?_
    · simp [results, Tryd.results13, go_sem]
    · exact bytes_mk (by rw [HB.out, HC.out]; rw [HQ9.out]) (by rw [HA.out]) (by rw [HA.out, HC.out]) (by rw [HA.out]) (by rw [HA.out]; exact NumsV.nil _) (((Below.refl _ _).alloc (Nat.le_refl _) _).alloc (by simp) _)
end Go.Proofs.YtmheleifjpfciaaDoor
