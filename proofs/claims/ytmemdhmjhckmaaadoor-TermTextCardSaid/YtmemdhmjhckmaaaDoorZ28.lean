/- Terminal: Resize. TermValid: two terminals side by side. TermValid: the walk. Contracts of the laws' own functions: Ints, like, told, is. Contract of limnerlaw07.told. Plain: the front of a rune's bytes. No program in sight. -/
import Derived.Test.YtmemdhmjhckmaaaDoorZ27
import Derived.Test.YtmemdhmjhckmaaaDoorZ17
import Derived.Test.YtmemdhmjhckmaaaDoorZ15
import Derived.Test.YtmemdhmjhckmaaaDoorZ2
import Derived.Deep.RegionHeld3
import Derived.Test.YtmemdhmjhckmaaaDoorZ9
namespace Go.Proofs.YtmemdhmjhckmaaaDoor
open Go.RowKit
set_option maxRecDepth 100000

def resizeM (t : Tm) (R C : Nat) : Tm := { t with rows := R, cols := C, cs := (resF (frM t) R C).cs, row := min t.row (R - 1), col := min t.col (C - 1), waits := false }
theorem res_form {t : Tm} (h : Inv t) {R C : Nat} (hm : mayB R C = true) : resF (frM t) R C = frM (resizeM t R C) ∧ resE (frM t) R C = 0 ∧ validF (resF (frM t) R C) = true := by
  have hok : resOk (frM t) R C = true := by unfold resOk; rw [hm, h.fr]; rfl
  have hb := may_bd hm
  have hv := resF_valid hok
  refine ⟨?_, by unfold resE; rw [if_pos hok], hv⟩
  unfold resizeM
  unfold frM
  dsimp only
  unfold resF at hv ⊢
  unfold frM at hok
  rw [if_pos hok]
  dsimp only
  congr 1
  · omega
  · omega
theorem Inv.resize {t : Tm} (h : Inv t) {R C : Nat} (hm : mayB R C = true) : Inv (resizeM t R C) := by
  obtain ⟨h1, -, h3⟩ := res_form h hm
  rw [h1] at h3
  have hb := may_bd hm
  have hlen : sizeB (frM (resizeM t R C)) = true := by
    unfold validF at h3
    simp only [Bool.and_eq_true] at h3
    exact h3.1.1.2
  have hl : (resizeM t R C).cs.length = R * C := by
    unfold sizeB at hlen
    have := of_decide_eq_true hlen
    change (((resizeM t R C).cs.length : Nat) : Int) = (R : Int) * (C : Int) at this
    exact_mod_cast this
  have hv : validL (resizeM t R C).cs R C = true := by
    unfold validF at h3
    simp only [Bool.and_eq_true] at h3
    exact h3.2
  exact ⟨hb.1, hb.2, hl, by show min t.row (R - 1) < R; omega, by show min t.col (C - 1) < C; omega, hv, h.hs⟩
set_option maxHeartbeats 4000000 in
theorem tresize_any {w0 W : World} {z g cap : Nat} (t : Tm) (h : TmB w0 W z g cap t) (hT : Tabs w0) (hI : Inv t) (R C : Nat) (hm : mayB R C = true) :
    Calls Tryd.prog 22 #[.pointer (some ⟨z, 0, none⟩), .int .i64 (R : Int), .int .i64 (C : Int)] W fun e W' => e = .returned (.int .i64 0) ∧ ∃ g' cap', TmB w0 W' z g' cap' (resizeM t R C) ∧ K2 z z W W' ∧ W.heap.size ≤ g' := by
  obtain ⟨r1, r2, r3⟩ := res_form hI hm
  have hI2 := hI.resize hm
  have HNO := hide (tnone_any t h)
  have hat : FrAt W (frV (frM t) (some ⟨g, 0, none⟩) t.cs.length cap) (frM t) := by
    refine ⟨_, cap, rfl, ?_, h.hcap, h.own.cls⟩
    rcases h.own.2 with ⟨e, -⟩ | ⟨g', cap', cur, e, -, -, h1, -⟩
    · cases e
    · injection e with e1 e2 e3
      rw [e3]; exact h1
  have HRS := hide (resize_frame (frM t) _ R C W hat (hT.w.below h.below) (hT.b.below' h.below))
  rw [r1, r2] at HRS
  obtain ⟨cs1, hcs1⟩ : ∃ c, (resizeM t R C).cs = c := ⟨_, rfl⟩
  obtain ⟨row1, hrow1⟩ : ∃ c, (resizeM t R C).row = c := ⟨_, rfl⟩
  obtain ⟨col1, hcol1⟩ : ∃ c, (resizeM t R C).col = c := ⟨_, rfl⟩
  have hl1 : cs1.length = R * C := by rw [← hcs1]; exact hI2.hL
  have hpos : 0 < R * C := Nat.mul_pos (by have := (may_bd hm).1; omega) (by have := (may_bd hm).2; omega)
  have hfr : frM (resizeM t R C) = ⟨R, C, cs1, row1, col1⟩ := by unfold frM; rw [hcs1, hrow1, hcol1]; rfl
  rw [hfr] at HRS
  have HE := hide (show resizeM t R C = { t with rows := R, cols := C, cs := cs1, row := row1, col := col1, waits := false } by rw [← hcs1, ← hrow1, ← hcol1]; rfl)
  obtain ⟨R0, C0, cs, row, col, ⟨a, tx⟩, s, wt, bl⟩ := t
  obtain ⟨-, c1, c2, c3, c4, c5, -⟩ := h.reads
  have H := hide h
  obtain ⟨n, hn⟩ : ∃ n, R * C = n := ⟨_, rfl⟩
  rw [hn] at hl1 hpos
  have hwl := h.sz
  unfold frV frM at HRS
  dsimp only at HRS
  clear h hat r1 r2 r3 hI2 hfr hcs1 hrow1 hcol1 hI hn
  go_enter Tryd.func22, Tryd.ntmps22
  go_wp2_with fail
  refine HNO.out.mono ?_; rintro e w1 ⟨rfl, rfl⟩
  go_wp2_with fail
  refine HRS.out.mono ?_; rintro e w2 ⟨v', rfl, hf, hb2⟩
  obtain ⟨g', cap', rfl, hcap', hown, hg'⟩ := hf.open hl1 hpos
  have hbl : Below w2.heap.size w2 (w2.alloc (.cells #[.int .i64 (R : Int), .int .i64 (C : Int), .slice (some ⟨g', 0, none⟩) n cap', .int .i64 (row1 : Int), .int .i64 (col1 : Int)] 35)) := (Below.refl _ _).alloc (Nat.le_refl _) _
  have H2 := hide ((H.out.low hb2).low hbl)
  have HOW := hide ((show OwnC w2 w0.heap.size (.slice (some ⟨g', 0, none⟩) n cap') cs1 from by
    have := (hf.mono hwl).open hl1 hpos
    obtain ⟨g9, c9, e9, -, h9, -⟩ := this
    injection e9 with e9
    simp only [Array.mk.injEq, List.cons.injEq, Value.slice.injEq, Option.some.injEq, Addr.mk.injEq] at e9
    have q2 := e9.2.2.1.2.2
    have q1 := e9.2.2.1.1.1
    subst q2
    subst q1
    exact h9).below hbl)
  have HB2 := hide (hb2.trans (hbl.mono hb2.size))
  have HY := hide (Blk.new w2 35 [.int .i64 (R : Int), .int .i64 (C : Int), .slice (some ⟨g', 0, none⟩) n cap', .int .i64 (row1 : Int), .int .i64 (col1 : Int)])
  rw [show [Value.int .i64 (R : Int), .int .i64 (C : Int), .slice (some ⟨g', 0, none⟩) n cap', .int .i64 (row1 : Int), .int .i64 (col1 : Int)].toArray = #[.int .i64 (R : Int), .int .i64 (C : Int), .slice (some ⟨g', 0, none⟩) n cap', .int .i64 (row1 : Int), .int .i64 (col1 : Int)] from rfl] at HY
  obtain ⟨y, hy⟩ : ∃ q, w2.heap.size = q := ⟨_, rfl⟩
  obtain ⟨w3, hw3⟩ : ∃ V, w2.alloc (.cells #[.int .i64 (R : Int), .int .i64 (C : Int), .slice (some ⟨g', 0, none⟩) n cap', .int .i64 (row1 : Int), .int .i64 (col1 : Int)] 35) = V := ⟨_, rfl⟩
  rw [hw3] at H2 HOW HB2 HY
  rw [hy] at HY
  have hzg : z ≠ g' := by have := H.out.b.lt; omega
  clear hf hb2 hown hbl c1 c2 c3 c4 c5
  have y0 := HY.out.cell (i := 0) rfl
  have y1 := HY.out.cell (i := 1) rfl
  have y2 := HY.out.cell (i := 2) rfl
  have y3 := HY.out.cell (i := 3) rfl
  have y4 := HY.out.cell (i := 4) rfl
  obtain ⟨-, d1, d2, d3, d4, d5, -, -, -, -, -, -, d12, -⟩ := H2.out.reads
  have bf := fun i => H2.out.b.frozen i
  go_wp2_with fail
  have M1 := H2.out.b
  have hcsv : tmCs (resizeM ⟨R0, C0, cs, row, col, (a, tx), s, wt, bl⟩ R C) g' cap' = [.bool true, .int .i64 (R : Int), .int .i64 (C : Int), .slice (some ⟨g', 0, none⟩) n cap', .int .i64 (row1 : Int), .int .i64 (col1 : Int), .int .i64 (a : Int), .string tx, .int .i64 s.fg, .bool s.bo, .bool s.un, .bool s.iv, .bool false, .int .i64 (bl : Int)] := by
    rw [HE.out]
    unfold tmCs tmC
    dsimp only
    rw [hl1]
  go_ret
  have own : OwnC w3 w0.heap.size (.slice (some ⟨g', 0, none⟩) n cap') cs1 := HOW.out
  have hz0 := H.out.hB
  have keepS : ∀ (V : World) (o : Nat) (v : Value), OwnC V w0.heap.size (.slice (some ⟨g', 0, none⟩) n cap') cs1 → OwnC (V.setCell ⟨z, o, none⟩ v) w0.heap.size (.slice (some ⟨g', 0, none⟩) n cap') cs1 := fun V o v h => h.keepG (Below.heap_setCell _ _ _ _ hzg.symm)
  have bl3 := H2.out.below
  refine ⟨rfl, g', cap', ⟨?_, ?_, hzg, hz0, ?_, hcap'⟩, ?_, hg'⟩
  · rw [hcsv]
    exact (((((M1.set 1 _).set 2 _).set 3 _).set 4 _).set 5 _).set 12 _
  · rw [HE.out]
    show OwnC _ _ (.slice (some ⟨g', 0, none⟩) cs1.length cap') cs1
    rw [hl1]
    exact keepS _ _ _ (keepS _ _ _ (keepS _ _ _ (keepS _ _ _ (keepS _ _ _ (keepS _ _ _ own)))))
  · exact (((((bl3.setCell (p := ⟨z, 1, none⟩) hz0 _).setCell (p := ⟨z, 2, none⟩) hz0 _).setCell (p := ⟨z, 3, none⟩) hz0 _).setCell (p := ⟨z, 4, none⟩) hz0 _).setCell (p := ⟨z, 5, none⟩) hz0 _).setCell (p := ⟨z, 12, none⟩) hz0 _
  · exact (K2.of HB2.out).trans ((((((K2.set z z 1 _ _).trans (K2.set z z 2 _ _)).trans (K2.set z z 3 _ _)).trans (K2.set z z 4 _ _)).trans (K2.set z z 5 _ _)).trans (K2.set z z 12 _ _))
end Go.Proofs.YtmemdhmjhckmaaaDoor
namespace Go.Proofs.YtmemdhmjhckmaaaDoor
open Go.RowKit
set_option maxRecDepth 100000

theorem and_15i (y : Int) : bits .and .i64 y 15 = (((y % 16).toNat : Nat) : Int) := by
  unfold bits
  simp only [BitVec.toNat_and, BitVec.toNat_ofInt]
  have e : ((15 : Int) % ((2 ^ IntKind.i64.bits : Nat) : Int)).toNat = 2 ^ 4 - 1 := by decide
  have e2 : ((2 ^ IntKind.i64.bits : Nat) : Int) = 18446744073709551616 := by decide
  rw [e, Nat.and_two_pow_sub_one_eq_mod, e2]
  rw [Go.wrap_small _ (by omega) (by omega)]
  omega
theorem and_31i (y : Int) : bits .and .i64 y 31 = (((y % 32).toNat : Nat) : Int) := by
  unfold bits
  simp only [BitVec.toNat_and, BitVec.toNat_ofInt]
  have e : ((31 : Int) % ((2 ^ IntKind.i64.bits : Nat) : Int)).toNat = 2 ^ 5 - 1 := by decide
  have e2 : ((2 ^ IntKind.i64.bits : Nat) : Int) = 18446744073709551616 := by decide
  rw [e, Nat.and_two_pow_sub_one_eq_mod, e2]
  rw [Go.wrap_small _ (by omega) (by omega)]
  omega
theorem StOk.up {K K' : Nat} {p : Nat × ByteArray} (h : StOk K p) (hk : K ≤ K') : StOk K' p := by
  rcases h with h | h | h | ⟨h, h2⟩
  · exact .inl h
  · exact .inr (.inl h)
  · exact .inr (.inr (.inl h))
  · exact .inr (.inr (.inr ⟨h, by omega⟩))
/-- Two terminals, apart from each other. -/
structure PT (w : World) (za zb : Nat) (tA tB : Tm) (W : World) : Prop where
  ex : ∃ ga ca gb cb, TmB w W za ga ca tA ∧ TmB w W zb gb cb tB ∧ zb ≠ za ∧ zb ≠ ga ∧ gb ≠ za ∧ gb ≠ ga
theorem PT.below {w W : World} {za zb : Nat} {tA tB : Tm} (h : PT w za zb tA tB W) : Below w.heap.size w W := by
  obtain ⟨_, _, _, _, h1, _⟩ := h.ex; exact h1.below
theorem PT.low {w W V : World} {za zb : Nat} {tA tB : Tm} (h : PT w za zb tA tB W) (hb : Below W.heap.size W V) : PT w za zb tA tB V := by
  obtain ⟨ga, ca, gb, cb, h1, h2, n⟩ := h.ex
  exact ⟨ga, ca, gb, cb, h1.low hb, h2.low hb, n⟩
theorem PT.swap {w W : World} {za zb : Nat} {tA tB : Tm} (h : PT w za zb tA tB W) : PT w zb za tB tA W := by
  obtain ⟨ga, ca, gb, cb, h1, h2, n1, n2, n3, n4⟩ := h.ex
  exact ⟨gb, cb, ga, ca, h2, h1, n1.symm, n3.symm, n2.symm, n4.symm⟩
theorem PT.write {w W : World} {za zb : Nat} {tA tB : Tm} (h : PT w za zb tA tB W) (hT : Tabs w) (hI : Inv tA) (s : ByteArray) (hs : s.size ≤ 10000) (K : Nat) (hK : K ≤ 50000) (hp : StOk K tA.p) (hb : tA.bells ≤ 500000) :
    Calls Tryd.prog 11 #[.pointer (some ⟨za, 0, none⟩), .string s] W fun e W' => e = .returned (.tuple #[]) ∧ PT w za zb (writeM tA s) tB W' := by
  obtain ⟨ga, ca, gb, cb, h1, h2, n1, n2, n3, n4⟩ := h.ex
  refine (twrite_any tA h1 hT hI s hs K hK hp hb).mono ?_
  rintro e W' ⟨rfl, a1, k⟩
  exact ⟨rfl, ga, ca, gb, cb, a1, h2.keep k n1 n2 n3 n4 h1.hB h1.hG, n1, n2, n3, n4⟩
theorem PT.resize {w W : World} {za zb : Nat} {tA tB : Tm} (h : PT w za zb tA tB W) (hT : Tabs w) (hI : Inv tA) (R C : Nat) (hm : mayB R C = true) :
    Calls Tryd.prog 22 #[.pointer (some ⟨za, 0, none⟩), .int .i64 (R : Int), .int .i64 (C : Int)] W fun e W' => e = .returned (.int .i64 0) ∧ PT w za zb (resizeM tA R C) tB W' := by
  obtain ⟨ga, ca, gb, cb, h1, h2, n1, n2, n3, n4⟩ := h.ex
  refine (tresize_any tA h1 hT hI R C hm).mono ?_
  rintro e W' ⟨rfl, g', cap', a1, k, hg⟩
  exact ⟨rfl, g', cap', gb, cb, a1, h2.keep k n1 n1 n3 n3 h1.hB h1.hB, n1, by have := h2.b.lt; omega, n3, by have := h2.own.ltG; omega⟩
theorem PT.frame {w W : World} {za zb : Nat} {tA tB : Tm} (h : PT w za zb tA tB W) (hI : Inv tA) :
    Calls Tryd.prog 14 #[.pointer (some ⟨za, 0, none⟩)] W fun e W' => ∃ v, e = .returned v ∧ FrAt W' v (frM tA) ∧ PT w za zb tA tB W' ∧ Below W.heap.size W W' := by
  obtain ⟨ga, ca, gb, cb, h1, h2, n⟩ := h.ex
  have hn : 0 < tA.cs.length ∧ tA.cs.length ≤ 20000 := by
    rw [hI.hL]
    exact ⟨Nat.mul_pos (by have := hI.hR; omega) (by have := hI.hC; omega), Nat.le_trans (Nat.mul_le_mul hI.hR.2 hI.hC.2) (by decide)⟩
  refine (tframe_any tA h1 hn.1 hn.2).mono ?_
  rintro e W' ⟨v, rfl, hf, hb⟩
  exact ⟨v, rfl, hf.at, h.low hb, hb⟩
theorem PT.bells {w W : World} {za zb : Nat} {tA tB : Tm} (h : PT w za zb tA tB W) :
    Calls Tryd.prog 15 #[.pointer (some ⟨za, 0, none⟩)] W fun e w' => e = .returned (.int .i64 (tA.bells : Int)) ∧ W = w' := by
  obtain ⟨ga, ca, gb, cb, h1, h2, n⟩ := h.ex
  exact tbells_any tA h1
theorem cut_app (s : ByteArray) (k : Nat) (hk : k ≤ s.size) : s.extract 0 k ++ s.extract k s.size = s := by
  rw [ByteArray.extract_append_extract]
  simp [Nat.max_eq_right hk, Nat.min_eq_left (Nat.zero_le k)]
theorem cut_write (t : Tm) (s : ByteArray) (k : Nat) (hk : k ≤ s.size) : writeM (writeM t (s.extract 0 k)) (s.extract k s.size) = writeM t s := by
  rw [← write_app, cut_app s k hk]
/-- What a terminal is behind so many acts. -/
def Okt (k : Nat) (t : Tm) : Prop := Inv t ∧ StOk (600 * k) t.p ∧ t.bells ≤ 1200 * k
theorem Okt.resize {k : Nat} {t : Tm} (h : Okt k t) {R C : Nat} (hm : mayB R C = true) : Okt (k + 1) (resizeM t R C) :=
  ⟨h.1.resize hm, h.2.1.up (by omega), by have := h.2.2; show t.bells ≤ _; omega⟩
theorem Okt.write {k : Nat} {t : Tm} (h : Okt k t) (s : ByteArray) (hs : s.size ≤ 600) : Okt (k + 1) (writeM t s) := by
  obtain ⟨h1, h2, h3⟩ := write_facts h.1 s h.2.1 s.size
  exact ⟨h1, h2.up (by omega), by have := h.2.2; unfold writeM; omega⟩
end Go.Proofs.YtmemdhmjhckmaaaDoor
namespace Go.Proofs.YtmemdhmjhckmaaaDoor
open Go.RowKit
set_option maxRecDepth 100000
set_option maxHeartbeats 4000000 in
theorem lawValid (w : World) (hT : Tabs w) (A : Option Addr) (cap : Nat) (L : List Tact) (hLm : L.length ≤ 9223372036854775807) (hr : RowOf w 4 tactCells A L) (hok : ∀ y ∈ L, TactOk y) (at_ : Nat) (hat : at_ < 65536) :
    Calls Tryd.prog 7 #[.slice A L.length cap, .int .u16 (at_ : Int)] w fun e W' => e = .returned (.bool true) ∧ Below w.heap.size w W' := by
  have HWR := hide (fun (V : World) (h : Below w.heap.size w V) => wrapped_any w V hT h)
  have HGR := hide (tgreat_any A cap L 20 w hLm hr)
  have hm0 : mayB 4 10 = true := by decide
  by_cases hg : greatT L 20 = true
  · rw [hg] at HGR
    obtain ⟨n, hn⟩ : ∃ n, L.length = n := ⟨_, rfl⟩
    rw [hn] at HGR ⊢
    clear hr hok hn hLm hg
    go_enter Tryd.func7, Tryd.ntmps7
    go_wp2_with fail
    refine HGR.out.mono ?_; rintro e w1 ⟨rfl, rfl⟩
    go_wp2_with fail
    refine (HWR.out _ (Below.refl _ _)).mono ?_; rintro e w1 ⟨rfl, hb1⟩
    have HF := hide hb1
    clear hb1
    go_wp2
    go_ret
    exact ⟨rfl, HF.out⟩
  · have hg : greatT L 20 = false := by simpa using hg
    rw [hg] at HGR
    obtain ⟨hl20, hs600⟩ := tgreat_no hg
    have HNW := hide (fun (V : World) (h : Below w.heap.size w V) => tnew_any 4 10 hm0 w V hT h)
    have HR := hide hr
    have HS := hide hs600
    have HO := hide hok
    have HT := hide hT
    have HI0 := hide (show Okt 0 (newM 4 10) from ⟨Inv.new hm0, .inl ⟨rfl, rfl⟩, Nat.zero_le _⟩)
    obtain ⟨t0_, ht0_⟩ : ∃ t, newM 4 10 = t := ⟨_, rfl⟩
    rw [ht0_] at HNW HI0
    obtain ⟨n, hn⟩ : ∃ n, L.length = n := ⟨_, rfl⟩
    have HN := hide hn
    rw [hn] at HGR hl20 ⊢
    clear hr hok hn hLm hg hs600 hT hm0 ht0_
    go_enter Tryd.func7, Tryd.ntmps7
    go_wp2_with fail
    refine HGR.out.mono ?_; rintro e w1 ⟨rfl, rfl⟩
    go_wp2_with fail
    refine (HNW.out _ (Below.refl _ _)).mono ?_; rintro e w2 ⟨za, ga, ca, rfl, A2, hb2, hz2, hg2⟩
    have HB2 := hide hb2
    have A2 := hide A2
    clear hb2 hz2 hg2
    go_wp2_with fail
    refine (HNW.out _ HB2.out).mono ?_; rintro e w3 ⟨zb, gb, cb, rfl, B3, hb3, hz3, hg3⟩
    have HP := hide (show PT w za zb t0_ t0_ w3 from ⟨ga, ca, gb, cb, A2.out.low hb3, B3, by have := A2.out.b.lt; omega, by have := A2.out.own.ltG; omega, by have := A2.out.b.lt; omega, by have := A2.out.own.ltG; omega⟩)
    clear hb3 hz3 hg3 A2 B3 HB2
    go_wp2_with fail
    go_loopw [9] (fun jv wr => ∃ (k : Nat) (t : Tm), jv = .int .i64 (k : Int) ∧ k ≤ n ∧ Hid (PT w za zb t t wr) ∧ Hid (Okt k t)) (fun jv _ => n - (intOf jv).toNat)
    case atStart => exact ⟨0, t0_, rfl, by omega, HP, HI0⟩
    case round =>
      obtain ⟨k, t, rfl, hk, HP, HI⟩ := hrel
      by_cases hlt : k < n
      · have hkk : (k : Int) < (n : Int) := by omega
        obtain ⟨x, hx⟩ : ∃ x, L[k]? = some x := ⟨_, List.getElem?_eq_getElem (by rw [HN.out]; exact hlt)⟩
        obtain ⟨b, o, rfl, x0, x1, x2, x3⟩ := tact_at (HR.out.below HP.out.below) hx
        have hs := HS.out x (List.mem_of_getElem? hx)
        have ho := HO.out x (List.mem_of_getElem? hx)
        clear hx
        obtain ⟨kd, s, r, c⟩ := x
        dsimp only at x0 x1 x2 x3 hs ho
        obtain ⟨⟨k0, k1⟩, -, ⟨r0, r1⟩, ⟨c0, c1⟩⟩ := ho
        dsimp only at k0 k1 r0 r1 c0 c1
        by_cases h7 : kd % 8 = 7
        · have t7 : Int.tmod kd 8 = 7 := by rw [Int.tmod_eq_emod_of_nonneg (by omega)]; exact h7
          obtain ⟨R, hR⟩ : ∃ R, 2 + (r % 16).toNat = R := ⟨_, rfl⟩
          obtain ⟨C, hC⟩ : ∃ C, 8 + (c % 32).toNat = C := ⟨_, rfl⟩
          have v0 : IntKind.i64.wrap (2 + bits .and .i64 r 15) = (R : Int) := by rw [and_15i, Go.wrap_small _ (by omega) (by omega)]; omega
          have v1 : IntKind.i64.wrap (8 + bits .and .i64 c 31) = (C : Int) := by rw [and_31i, Go.wrap_small _ (by omega) (by omega)]; omega
          have hm : mayB R C = true := by unfold mayB; simp; omega
          have HI2 := hide (HI.out.resize hm)
          have HM := hide hm
          clear hR hC hm
          go_wp2_with fail
          go_region
          have HP0 := hide (show PT w za zb t t wr.drew from HP.out.low (Below.refl _ _).drew)
          obtain ⟨W1, hW1⟩ : ∃ V, wr.drew = V := ⟨_, rfl⟩
          rw [hW1] at HP0
          (try rw [hW1])
          clear hW1 x0 x1 x2 x3 HP
          go_wp2_with fail
          refine (HP0.out.resize HT.out HI.out.1 R C HM.out).mono ?_; rintro e w4 ⟨rfl, p4⟩
          have HP4 := hide p4.swap
          clear p4 HP0
          go_wp2_with fail
          refine (HP4.out.resize HT.out HI.out.1 R C HM.out).mono ?_; rintro e w5 ⟨rfl, p5⟩
          have HP5 := hide p5.swap
          clear p5 HP4
          go_wp2
          exact ⟨⟨k + 1, _, by go_num, by omega, HP5, HI2⟩, by simp [intOf]; omega⟩
        · have t7 : ¬ Int.tmod kd 8 = 7 := by rw [Int.tmod_eq_emod_of_nonneg (by omega)]; exact h7
          obtain ⟨q, hq⟩ : ∃ q, at_ % (s.size + 1) = q := ⟨_, rfl⟩
          have hqs : q ≤ s.size := by have := Nat.mod_lt at_ (show 0 < s.size + 1 by omega); omega
          have m2 : (at_ : Int) % ((s.size : Int) + 1) = (q : Int) := by
            have := congrArg (fun x : Nat => (x : Int)) hq
            simpa using this
          have m3 : Int.tmod (at_ : Int) ((s.size : Int) + 1) = (q : Int) := by rw [Int.tmod_eq_emod_of_nonneg (by omega)]; exact m2
          have m4 : (q : Int) ≤ (s.size : Int) := by omega
          have m5 : (0 : Int) ≤ (q : Int) := by omega
          have HI2 := hide (HI.out.write s hs)
          have HCW := hide (cut_write t s q hqs)
          have hp1 : (s.extract 0 q).size ≤ 600 := by rw [ByteArray.size_extract]; omega
          have hp2 : (s.extract q s.size).size ≤ 600 := by rw [ByteArray.size_extract]; omega
          have HIm := hide (HI.out.write _ hp1)
          go_wp2_with fail
          refine (HP.out.write HT.out HI.out.1 s (by omega) (600 * k) (by omega) HI.out.2.1 (by have := HI.out.2.2; omega)).mono ?_; rintro e w4 ⟨rfl, p4⟩
          have HP4 := hide p4.swap
          clear p4 HP
          go_wp2_with fail
          refine (HP4.out.write HT.out HI.out.1 _ (Nat.le_trans hp1 (by decide)) (600 * k) (by omega) HI.out.2.1 (by have := HI.out.2.2; omega)).mono ?_; rintro e w5 ⟨rfl, p5⟩
          have HP5 := hide p5
          clear p5 HP4
          go_wp2_with fail
          refine (HP5.out.write HT.out HIm.out.1 _ (Nat.le_trans hp2 (by decide)) (600 * (k + 1)) (by omega) HIm.out.2.1 (by have := HIm.out.2.2; omega)).mono ?_; rintro e w6 ⟨rfl, p6⟩
          rw [HCW.out] at p6
          obtain ⟨t', ht'⟩ : ∃ t', writeM t s = t' := ⟨_, rfl⟩
          rw [ht'] at HI2 p6
          have HP6 := hide p6.swap
          have HV := hide (Inv.fr HI2.out.1)
          clear p6 HP5 HCW HIm hp1 hp2 ht' HI x0 x1 x2 x3 m2 m3 m4 m5 hq hqs h7 t7
          go_wp2_with fail
          refine (HP6.out.frame HI2.out.1).mono ?_; rintro e w7 ⟨v7, rfl, F7, p7, hb7⟩
          have HP7 := hide p7.swap
          have F7 := hide F7
          clear p7 HP6 hb7
          go_wp2_with fail
          refine (HP7.out.frame HI2.out.1).mono ?_; rintro e w8 ⟨v8, rfl, F8, p8, hb8⟩
          have HP8 := hide p8.swap
          have F8 := hide F8
          have F78 := hide (F7.out.below hb8)
          clear p8 HP7 F7 hb8
          obtain ⟨fr, hfr⟩ : ∃ fr, frM t' = fr := ⟨_, rfl⟩
          rw [hfr] at HV F8 F78
          obtain ⟨A7, c7, e7, -⟩ := F78.out
          obtain ⟨A8, c8, e8, -⟩ := F8.out
          obtain ⟨m, hfn⟩ : ∃ m, fr.cs.length = m := ⟨_, rfl⟩
          rw [hfn] at e7 e8
          unfold frV at e7 e8
          subst e7 e8
          clear hfr hfn
          obtain ⟨y, hy⟩ : ∃ q, w8.heap.size = q := ⟨_, rfl⟩
          go_wp2_with fail
          have hbx : Below w8.heap.size w8 ((w8.alloc (.cells #[.int .i64 fr.rows, .int .i64 fr.cols, .slice A7 m c7, .int .i64 fr.row, .int .i64 fr.col] 35)).alloc (.cells #[.int .i64 fr.rows, .int .i64 fr.cols, .slice A8 m c8, .int .i64 fr.row, .int .i64 fr.col] 35)) := ((Below.refl _ _).alloc (Nat.le_refl _) _).alloc (by rw [World.size_alloc]; omega) _
          have HX := hide ((Blk.new w8 35 [.int .i64 fr.rows, .int .i64 fr.cols, .slice A7 m c7, .int .i64 fr.row, .int .i64 fr.col]).alloc (.cells #[.int .i64 fr.rows, .int .i64 fr.cols, .slice A8 m c8, .int .i64 fr.row, .int .i64 fr.col] 35))
          have HY := hide (Blk.new (w8.alloc (.cells #[.int .i64 fr.rows, .int .i64 fr.cols, .slice A7 m c7, .int .i64 fr.row, .int .i64 fr.col] 35)) 35 [.int .i64 fr.rows, .int .i64 fr.cols, .slice A8 m c8, .int .i64 fr.row, .int .i64 fr.col])
          rw [World.size_alloc] at HY
          rw [show [Value.int .i64 fr.rows, .int .i64 fr.cols, .slice A7 m c7, .int .i64 fr.row, .int .i64 fr.col].toArray = #[.int .i64 fr.rows, .int .i64 fr.cols, .slice A7 m c7, .int .i64 fr.row, .int .i64 fr.col] from rfl] at HX HY
          rw [show [Value.int .i64 fr.rows, .int .i64 fr.cols, .slice A8 m c8, .int .i64 fr.row, .int .i64 fr.col].toArray = #[.int .i64 fr.rows, .int .i64 fr.cols, .slice A8 m c8, .int .i64 fr.row, .int .i64 fr.col] from rfl] at HY
          rw [hy] at HX HY
          obtain ⟨W9, hW9⟩ : ∃ V, (w8.alloc (.cells #[.int .i64 fr.rows, .int .i64 fr.cols, .slice A7 m c7, .int .i64 fr.row, .int .i64 fr.col] 35)).alloc (.cells #[.int .i64 fr.rows, .int .i64 fr.cols, .slice A8 m c8, .int .i64 fr.row, .int .i64 fr.col] 35) = V := ⟨_, rfl⟩
          rw [hW9] at hbx HX HY
          (try rw [hW9])
          have HP9 := hide (HP8.out.low hbx)
          have F9 := hide (F78.out.below hbx)
          have G9 := hide (F8.out.below hbx)
          clear hbx hW9 hy F78 F8 HP8
          refine (valid_is fr true HV.out _ _ F9.out (HT.out.w.below HP9.out.below)).mono ?_; rintro e w10 ⟨rfl, hb10⟩
          have HP10 := hide (HP9.out.low hb10)
          have F10 := hide (F9.out.below hb10)
          have G10 := hide (G9.out.below hb10)
          have X10 := HX.out.below hb10
          have Y10 := HY.out.below hb10
          have a0 := X10.cell (i := 0) rfl
          have a1 := X10.cell (i := 1) rfl
          have a2 := X10.cell (i := 2) rfl
          have a3 := X10.cell (i := 3) rfl
          have a4 := X10.cell (i := 4) rfl
          have b0 := Y10.cell (i := 0) rfl
          have b1 := Y10.cell (i := 1) rfl
          have b2 := Y10.cell (i := 2) rfl
          have b3 := Y10.cell (i := 3) rfl
          have b4 := Y10.cell (i := 4) rfl
          clear hb10 X10 Y10 HX HY HP9 F9 G9
          go_wp2_with fail
          refine (same_self fr _ _ _ F10.out G10.out).mono ?_; rintro e w11 ⟨rfl, hb11⟩
          have HP11 := hide (HP10.out.low hb11)
          clear hb11 HP10 F10 G10 a0 a1 a2 a3 a4 b0 b1 b2 b3 b4
          go_wp2_with fail
          refine HP11.out.bells.mono ?_; rintro e w12 ⟨rfl, rfl⟩
          go_wp2_with fail
          refine HP11.out.swap.bells.mono ?_; rintro e w12 ⟨rfl, rfl⟩
          go_wp2
          exact ⟨⟨k + 1, _, by go_num, by omega, HP11, HI2⟩, by simp [intOf]; omega⟩
      · have hkk : ¬ (k : Int) < (n : Int) := by omega
        have HB := hide HP.out.below
        go_wp2_with fail
        refine (HWR.out _ HB.out).mono ?_; rintro e w3 ⟨rfl, hb3⟩
        have HB3 := hide (HB.out.trans (hb3.mono HB.out.size))
        clear hb3
        go_wp2
        go_ret
        exact ⟨rfl, HB3.out⟩
end Go.Proofs.YtmemdhmjhckmaaaDoor
namespace Go.Proofs.YtmemdhmjhckmaaaDoor
open Go.RowKit

theorem below_drewL {B : Nat} {a w : World} (h : Below B a w) (n : Nat) : Below B a (w.drewN n) := ⟨h.os, h.tape, h.output, h.size, h.block⟩
end Go.Proofs.YtmemdhmjhckmaaaDoor
namespace Go.Proofs.YtmemdhmjhckmaaaDoor
open Go.RowKit

/-- Where one stands behind so many bytes, and what they have asked for. -/
def stA (s : ByteArray) : Nat → Nat × ByteArray
  | 0 => (0, ⟨#[]⟩)
  | k + 1 => (feed (stA s k) (s.get! k).toNat).1
def outA (s : ByteArray) : Nat → List Ac
  | 0 => []
  | k + 1 => outA s k ++ (feed (stA s k) (s.get! k).toNat).2
theorem stA_ok (s : ByteArray) (k : Nat) : StOk k (stA s k) := by
  induction k with
  | zero => exact .inl ⟨rfl, rfl⟩
  | succ k ih => exact feed_ok ih
theorem ground_twoA (x : Int) : (ground x).2.length ≤ 1 := ground_few x
theorem feed_twoA (p : Nat × ByteArray) (x : Int) : (feed p x).2.length ≤ 2 := by
  unfold feed
  split
  · have := ground_twoA x; omega
  split
  · unfold inRune
    (repeat' split) <;> simp
    exact ground_twoA x
  · unfold inSeq csi
    (repeat' split) <;> simp
theorem outA_len (s : ByteArray) (k : Nat) : (outA s k).length ≤ 2 * k := by
  induction k with
  | zero => simp [outA]
  | succ k ih => simp only [outA, List.length_append]; have := feed_twoA (stA s k) (s.get! k).toNat; omega

theorem actsA_set2 {W : World} {B : Nat} {E : TypeId} {v : Value} {L : List Ac} (h : OwnA W B E v L) {b : Nat} (hb : TyA W b 54) (hE : 54 ≠ E) (x y : Value) : OwnA ((W.setCell ⟨b, 0, none⟩ x).setCell ⟨b, 1, none⟩ y) B E v L :=
  (h.set (p := ⟨b, 0, none⟩) hb (by decide) hE x).set (p := ⟨b, 1, none⟩) (hb.setCell _ _) (by decide) hE y
theorem Blk.ty {W : World} {b : Nat} {t : TypeId} {cs : List Value} (h : Blk W b t cs) : TyA W b t := ⟨_, _, h⟩
theorem blk_set2 {W : World} {b : Nat} {t : TypeId} {a c : Value} (h : Blk W b t [a, c]) (x y : Value) : Blk ((W.setCell ⟨b, 0, none⟩ x).setCell ⟨b, 1, none⟩ y) b t [x, y] := (h.set 0 x).set 1 y
theorem get_nat (s : ByteArray) (k : Nat) (h : k < s.size) : (s[k].toNat : Int) = ((s.get! k).toNat : Int) := by rw [get_of h]
def TS (w : World) (x y : Value) (v : Value) (L : List Ac) (W : World) : Prop := Blk W w.heap.size 54 [x, y] ∧ OwnA W (w.heap.size + 1) 72 v L ∧ Below w.heap.size w W
theorem TS.below {w W W' : World} {x y v : Value} {L : List Ac} (h : TS w x y v L W) (hb : Below W.heap.size W W') : TS w x y v L W' := ⟨h.1.below hb, h.2.1.below hb, h.2.2.trans (hb.mono h.2.2.size)⟩
theorem TS.keep {w W W' : World} {x y v : Value} {L : List Ac} (h : TS w x y v L W) (hb : Below W.heap.size W W') : W'.cell? ⟨w.heap.size, 0, none⟩ = some x ∧ W'.cell? ⟨w.heap.size, 1, none⟩ = some y ∧ Hid (TS w x y v L W') := by
  have h2 := h.below hb
  exact ⟨h2.1.cell rfl, h2.1.cell rfl, hide h2⟩
theorem TS.far {w W : World} {x y v : Value} {L : List Ac} (h : TS w x y v L W) {b : Nat} (hb : w.heap.size < b) (ht : TyA W b 54) (p q : Value) : TS w x y v L ((W.setCell ⟨b, 0, none⟩ p).setCell ⟨b, 1, none⟩ q) :=
  ⟨(h.1.far (p := ⟨b, 0, none⟩) (fun e => by have e : b = w.heap.size := e; omega) _).far (p := ⟨b, 1, none⟩) (fun e => by have e : b = w.heap.size := e; omega) _, actsA_set2 h.2.1 ht (by decide) _ _, (h.2.2.setCell (p := ⟨b, 0, none⟩) (Nat.le_of_lt hb) _).setCell (p := ⟨b, 1, none⟩) (Nat.le_of_lt hb) _⟩
theorem TS.keepf {w W : World} {x y v : Value} {L : List Ac} (h : TS w x y v L W) {b : Nat} (hb : w.heap.size < b) (ht : TyA W b 54) (p q : Value) : ((W.setCell ⟨b, 0, none⟩ p).setCell ⟨b, 1, none⟩ q).cell? ⟨w.heap.size, 0, none⟩ = some x ∧ ((W.setCell ⟨b, 0, none⟩ p).setCell ⟨b, 1, none⟩ q).cell? ⟨w.heap.size, 1, none⟩ = some y ∧ Hid (TS w x y v L ((W.setCell ⟨b, 0, none⟩ p).setCell ⟨b, 1, none⟩ q)) := by
  have h2 := h.far hb ht p q
  exact ⟨h2.1.cell rfl, h2.1.cell rfl, hide h2⟩
theorem st_cells {q : Nat × ByteArray} {g : Int} {t : ByteArray} (h : stPv q = .agg #[.int .i64 g, .string t]) : [Value.int .i64 q.1, .string q.2] = [.int .i64 g, .string t] := by
  unfold stPv at h
  injection h with h
  simpa using h
theorem st_next {s : ByteArray} {k : Nat} {x : Int} {q : Nat × ByteArray} {L : List Ac} (hx : ((s.get! k).toNat : Int) = x) (hq : feed (stA s k) x = (q, L)) : stA s (k + 1) = q ∧ outA s (k + 1) = outA s k ++ L := by
  subst hx
  simp only [stA, outA, hq, and_self]
end Go.Proofs.YtmemdhmjhckmaaaDoor
namespace Go.Proofs.YtmemdhmjhckmaaaDoor

theorem take_byte {s : ByteArray} {k : Nat} (h : k < s.size) : s.data.toList.take (k + 1) = s.data.toList.take k ++ [s[k]] := by
  rw [List.take_succ_eq_append_getElem (by simpa using h)]; rfl
theorem ext_push {s : ByteArray} {k : Nat} (h : k < s.size) : s.extract 0 k ++ strOfNums [((s.get! k).toNat : Int)] = s.extract 0 (k + 1) := by
  have e : strOfNums [((s.get! k).toNat : Int)] = ⟨#[s.get! k]⟩ := by
    show (⟨#[UInt8.ofNat ((s.get! k).toNat : Int).toNat]⟩ : ByteArray) = _
    rw [Int.toNat_natCast, UInt8.ofNat_toNat]
  rw [e]
  apply ByteArray.ext
  rw [ByteArray.data_append, ByteArray.data_extract, ByteArray.data_extract, get_of h]
  apply Array.ext'
  simp only [Array.toList_append, Array.toList_extract, List.extract_eq_take_drop, List.drop_zero, Nat.sub_zero]
  exact (take_byte h).symm
theorem ext_get0 {s : ByteArray} {k i : Nat} (h : i < k) (hk : k ≤ s.size) : (s.extract 0 k).get! i = s.get! i := by
  have hz : (s.extract 0 k).size = k := by simp; omega
  rw [get_of (by omega), get_of (by omega)]
  have : (s.extract 0 k).data[i]'(by show i < (s.extract 0 k).size; omega) = s.data[i]'(by show i < s.size; omega) := by
    simp only [ByteArray.data_extract, Array.getElem_extract, Nat.zero_add]
  exact this
theorem beg_front {s : ByteArray} (h : 2 ≤ s.size) (hw : wholeB s = true) {k : Nat} (h1 : 1 ≤ k) (hk : k < s.size) : begB (s.extract 0 k) = true := by
  obtain ⟨e0, e1, e2, e3⟩ := (whole_iff s h).1 hw
  have hz : (s.extract 0 k).size = k := by simp; omega
  unfold begB
  rw [decide_eq_true_eq, hz, ext_get0 (by omega) (by omega)]
  have hn := need_le (s.get! 0).toNat
  refine ⟨h1, by omega, fun h2 => by rw [ext_get0 h2 (by omega)]; exact e1, fun h2 => by rw [ext_get0 h2 (by omega)]; exact e2 (by omega)⟩
theorem whole_front {s : ByteArray} (h : 2 ≤ s.size) (hw : wholeB s = true) {k : Nat} (h1 : 2 ≤ k) (hk : k < s.size) : wholeB (s.extract 0 k) = false := by
  obtain ⟨e0, e1, e2, e3⟩ := (whole_iff s h).1 hw
  have hz : (s.extract 0 k).size = k := by simp; omega
  cases hb : wholeB (s.extract 0 k)
  · rfl
  · have := ((whole_iff (s.extract 0 k) (by omega)).1 hb).1
    rw [hz, ext_get0 (by omega) (by omega)] at this
    omega
end Go.Proofs.YtmemdhmjhckmaaaDoor
