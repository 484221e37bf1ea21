/- The document's terminal: control sequences. -/
import Derived.Test.YtmemdhmjhckmaaaDoorZ36
namespace Go.Proofs.YtmemdhmjhckmaaaDoor
open Go.RowKit
set_option maxRecDepth 100000

set_option maxHeartbeats 8000000 in
theorem rtseq_f74_0 {w0 W : World} {z g cap : Nat} (t : Tm) (h : TrB w0 W z g cap t) (hI : Inv t) (fin : Int) (pv : Value) (l : List Int) (hv : NumsV W pv l) (hl : l.length ≤ 100000) (h9 : ∀ x ∈ l, 0 ≤ x ∧ x ≤ 9999) (hf : fin = 74) (hk : l.getD 0 0 = 0) :
    Calls Tryd.prog 35 #[.pointer (some ⟨z, 0, none⟩), pv, .int .u8 fin] W (Mr w0 W z g (seqM t l fin)) := by
  have HIV := hide hI
  have hIR := hI.hR
  have hIC := hI.hC
  have hIL := hI.hL
  have hrw := hI.hrow
  have hcl := hI.hcol
  obtain ⟨R, C, cs, row, col, p, s, wt, bl⟩ := t
  dsimp only at hIR hIC hIL hrw hcl
  obtain ⟨A, c, rfl⟩ := hv.form
  have HSQ := hide (show seqM ⟨R, C, cs, row, col, p, s, wt, bl⟩ l fin = ⟨R, C, wipeN cs (row * C + col) (cs.length - (row * C + col)), row, col, p, s, false, bl⟩ from by
    subst hf
    show ({ clearM ⟨R, C, cs, row, col, p, s, wt, bl⟩ (l.getD 0 0) 0 cs.length with waits := false } : Tm) = _
    rw [hk]; rfl)
  subst hf
  have h90 := getD_bd h9 0
  have h91 := getD_bd h9 1
  have HNU := hide hv
  have HN0 := hide (fun V (hb : Below W.heap.size W V) => (show Calls Tryd.prog 64 #[.slice A l.length c, .int .i64 0] V fun e w' => e = .returned (.int .i64 (l.getD 0 0)) ∧ V = w' from rnum_any (.slice A l.length c) l 0 V (hv.below hb) hl (by omega)))
  have HN1 := hide (fun V (hb : Below W.heap.size W V) => (show Calls Tryd.prog 64 #[.slice A l.length c, .int .i64 1] V fun e w' => e = .returned (.int .i64 (l.getD 1 0)) ∧ V = w' from rnum_any (.slice A l.length c) l 1 V (hv.below hb) hl (by omega)))
  obtain ⟨nn, hnn⟩ : ∃ x, R * C = x := ⟨_, rfl⟩
  have hn2 : nn ≤ 20000 := by rw [← hnn]; exact Nat.le_trans (Nat.mul_le_mul hIR.2 hIC.2) (by decide)
  have hat := at_lt hI
  dsimp only at hat
  obtain ⟨rc, hrc⟩ : ∃ x, row * C = x := ⟨_, rfl⟩
  obtain ⟨at_, hat_⟩ : ∃ x, rc + col = x := ⟨_, rfl⟩
  have hrcC : rc + C ≤ nn := by
    rw [← hrc, ← hnn]
    have : (row + 1) * C ≤ R * C := Nat.mul_le_mul_right C hrw
    rw [Nat.add_mul, Nat.one_mul] at this; exact this
  rw [hrc, hat_, hnn] at hat
  rw [hnn] at hIL
  (try rw [hrc] at HSQ)
  (try rw [hat_] at HSQ)
  have hw1 : IntKind.i64.wrap ((row : Int) * (C : Int)) = (rc : Int) := by
    rw [show (row : Int) * (C : Int) = (rc : Int) by rw [← hrc]; push_cast; rfl]
    exact Go.wrap_small _ (by omega) (by omega)
  have hw2 : IntKind.i64.wrap ((rc : Int) + (col : Int)) = (at_ : Int) := (Go.wrap_small _ (by omega) (by omega)).trans (by omega)
  obtain ⟨n, hn⟩ : ∃ n, l.getD 0 0 = n := ⟨_, rfl⟩
  obtain ⟨n1, hn1⟩ : ∃ n, l.getD 1 0 = n := ⟨_, rfl⟩
  rw [hn] at h90 HN0
  (try rw [hn] at HSQ)
  rw [hn1] at h91 HN1
  (try rw [hn1] at HSQ)
  obtain rfl : n = 0 := hn.symm.trans hk
  clear hk
  have HNN := hide hn2
  have HNE := hide hnn
  (try rw [hIL] at HSQ)
  obtain ⟨m, hm⟩ : ∃ m, max (0 : Int) 1 = m := ⟨_, rfl⟩
  have hmb := max_one h90
  rw [hm] at hmb
  (try rw [hm] at HSQ)
  have HHM := hide hm
  have HAT := hide hat_
  have HRC := hide hrc
  have HRCC := hide hrcC
  have HATN := hide hat
  obtain ⟨c0, c1, c2, c3, c4, c5, c6, c7, c8, c9, c10, c11⟩ := h.reads
  rw [hIL] at c2
  have bf := fun i => h.b.frozen i
  have HLN := hide hIL
  have H := hide h
  have HMB := hide hmb
  have H90 := hide h90
  have H91 := hide h91
  clear h hI hv hn hn1 hnn hrc hat_ hrcC hat hmb h91 hn2 hIL
  obtain ⟨len, hlen⟩ : ∃ q, l.length = q := ⟨_, rfl⟩
  rw [hlen] at HNU HN0 HN1 hl ⊢
  have HLEN := hide hlen
  clear hlen
  cases wt
  · go_enter Tryd.func35, Tryd.ntmps35
    go_wp2_with fail
    refine (HN0.out _ (Below.refl _ _)).mono ?_; rintro e w1 ⟨rfl, rfl⟩
    go_wp2_with fail
    (try rw [hm])
    go_region
    go_wp2_with fail
    obtain ⟨U, hU, HU, KU⟩ := named (R := fun V => TrB w0 V z g cap ⟨R, C, cs, row, col, p, s, false, bl⟩ ∧ K2 z g W V) ⟨(H.out.setZ ⟨R, C, cs, row, col, p, s, false, bl⟩ 10 (.bool false) rfl rfl).low (Below.refl _ _).drew, (K2.set _ _ _ _ _).trans K2.drew⟩
    rw [hU]
    have HU := hide HU
    have KU := hide KU
    clear hU H c0 c1 c2 c3 c4 c5 c6 c7 c8 c9 c10 c11 bf
    obtain ⟨c0, c1, c2, c3, c4, -⟩ := HU.out.reads
    rw [HLN.out] at c2
    have bf := fun i => HU.out.b.frozen i
    go_wp2_with fail
    have b1 := HATN.out
    have b2 := HRCC.out
    have b3 := HNN.out
    have b4 := HAT.out
    refine Calls.mono (rerase_i ⟨R, C, cs, row, col, p, s, false, bl⟩ HU.out (HIV.out.waits false) at_ nn (by omega) (by show nn ≤ R * C; rw [HNE.out]; omega) _ _ (by first | rfl | omega | (unfold wrap64; omega) | (simp only [IntKind.wrap_i64]; omega)) (by first | rfl | omega | (unfold wrap64; omega) | (simp only [IntKind.wrap_i64]; omega)) HSQ.out.symm) ?_
    rintro e w2 ⟨rfl, g2, cap2, H2, K2', hg2⟩
    clear b1 b2 b3 b4
    go_wp2
    go_end0
    exact Mr.mk H2 (KU.out.trans K2') (by rcases hg2 with h | h; exact .inl h; exact .inr (Nat.le_trans KU.out.size h))
  · go_enter Tryd.func35, Tryd.ntmps35
    go_wp2_with fail
    refine (HN0.out _ (Below.refl _ _)).mono ?_; rintro e w1 ⟨rfl, rfl⟩
    go_wp2_with fail
    (try rw [hm])
    go_region
    go_wp2_with fail
    obtain ⟨U, hU, HU, KU⟩ := named (R := fun V => TrB w0 V z g cap ⟨R, C, cs, row, col, p, s, false, bl⟩ ∧ K2 z g W V) ⟨(H.out.setZ ⟨R, C, cs, row, col, p, s, false, bl⟩ 10 (.bool false) rfl rfl).low (Below.refl _ _).drew, (K2.set _ _ _ _ _).trans K2.drew⟩
    rw [hU]
    have HU := hide HU
    have KU := hide KU
    clear hU H c0 c1 c2 c3 c4 c5 c6 c7 c8 c9 c10 c11 bf
    obtain ⟨c0, c1, c2, c3, c4, -⟩ := HU.out.reads
    rw [HLN.out] at c2
    have bf := fun i => HU.out.b.frozen i
    go_wp2_with fail
    have b1 := HATN.out
    have b2 := HRCC.out
    have b3 := HNN.out
    have b4 := HAT.out
    refine Calls.mono (rerase_i ⟨R, C, cs, row, col, p, s, false, bl⟩ HU.out (HIV.out.waits false) at_ nn (by omega) (by show nn ≤ R * C; rw [HNE.out]; omega) _ _ (by first | rfl | omega | (unfold wrap64; omega) | (simp only [IntKind.wrap_i64]; omega)) (by first | rfl | omega | (unfold wrap64; omega) | (simp only [IntKind.wrap_i64]; omega)) HSQ.out.symm) ?_
    rintro e w2 ⟨rfl, g2, cap2, H2, K2', hg2⟩
    clear b1 b2 b3 b4
    go_wp2
    go_end0
    exact Mr.mk H2 (KU.out.trans K2') (by rcases hg2 with h | h; exact .inl h; exact .inr (Nat.le_trans KU.out.size h))
set_option maxHeartbeats 8000000 in
theorem rtseq_f74_1 {w0 W : World} {z g cap : Nat} (t : Tm) (h : TrB w0 W z g cap t) (hI : Inv t) (fin : Int) (pv : Value) (l : List Int) (hv : NumsV W pv l) (hl : l.length ≤ 100000) (h9 : ∀ x ∈ l, 0 ≤ x ∧ x ≤ 9999) (hf : fin = 74) (hk : l.getD 0 0 = 1) :
    Calls Tryd.prog 35 #[.pointer (some ⟨z, 0, none⟩), pv, .int .u8 fin] W (Mr w0 W z g (seqM t l fin)) := by
  have HIV := hide hI
  have hIR := hI.hR
  have hIC := hI.hC
  have hIL := hI.hL
  have hrw := hI.hrow
  have hcl := hI.hcol
  obtain ⟨R, C, cs, row, col, p, s, wt, bl⟩ := t
  dsimp only at hIR hIC hIL hrw hcl
  obtain ⟨A, c, rfl⟩ := hv.form
  have HSQ := hide (show seqM ⟨R, C, cs, row, col, p, s, wt, bl⟩ l fin = ⟨R, C, wipeN cs 0 ((row * C + col + 1) - 0), row, col, p, s, false, bl⟩ from by
    subst hf
    show ({ clearM ⟨R, C, cs, row, col, p, s, wt, bl⟩ (l.getD 0 0) 0 cs.length with waits := false } : Tm) = _
    rw [hk]; rfl)
  subst hf
  have h90 := getD_bd h9 0
  have h91 := getD_bd h9 1
  have HNU := hide hv
  have HN0 := hide (fun V (hb : Below W.heap.size W V) => (show Calls Tryd.prog 64 #[.slice A l.length c, .int .i64 0] V fun e w' => e = .returned (.int .i64 (l.getD 0 0)) ∧ V = w' from rnum_any (.slice A l.length c) l 0 V (hv.below hb) hl (by omega)))
  have HN1 := hide (fun V (hb : Below W.heap.size W V) => (show Calls Tryd.prog 64 #[.slice A l.length c, .int .i64 1] V fun e w' => e = .returned (.int .i64 (l.getD 1 0)) ∧ V = w' from rnum_any (.slice A l.length c) l 1 V (hv.below hb) hl (by omega)))
  obtain ⟨nn, hnn⟩ : ∃ x, R * C = x := ⟨_, rfl⟩
  have hn2 : nn ≤ 20000 := by rw [← hnn]; exact Nat.le_trans (Nat.mul_le_mul hIR.2 hIC.2) (by decide)
  have hat := at_lt hI
  dsimp only at hat
  obtain ⟨rc, hrc⟩ : ∃ x, row * C = x := ⟨_, rfl⟩
  obtain ⟨at_, hat_⟩ : ∃ x, rc + col = x := ⟨_, rfl⟩
  have hrcC : rc + C ≤ nn := by
    rw [← hrc, ← hnn]
    have : (row + 1) * C ≤ R * C := Nat.mul_le_mul_right C hrw
    rw [Nat.add_mul, Nat.one_mul] at this; exact this
  rw [hrc, hat_, hnn] at hat
  rw [hnn] at hIL
  (try rw [hrc] at HSQ)
  (try rw [hat_] at HSQ)
  have hw1 : IntKind.i64.wrap ((row : Int) * (C : Int)) = (rc : Int) := by
    rw [show (row : Int) * (C : Int) = (rc : Int) by rw [← hrc]; push_cast; rfl]
    exact Go.wrap_small _ (by omega) (by omega)
  have hw2 : IntKind.i64.wrap ((rc : Int) + (col : Int)) = (at_ : Int) := (Go.wrap_small _ (by omega) (by omega)).trans (by omega)
  obtain ⟨n, hn⟩ : ∃ n, l.getD 0 0 = n := ⟨_, rfl⟩
  obtain ⟨n1, hn1⟩ : ∃ n, l.getD 1 0 = n := ⟨_, rfl⟩
  rw [hn] at h90 HN0
  (try rw [hn] at HSQ)
  rw [hn1] at h91 HN1
  (try rw [hn1] at HSQ)
  obtain rfl : n = 1 := hn.symm.trans hk
  clear hk
  have HNN := hide hn2
  have HNE := hide hnn
  (try rw [hIL] at HSQ)
  obtain ⟨m, hm⟩ : ∃ m, max (1 : Int) 1 = m := ⟨_, rfl⟩
  have hmb := max_one h90
  rw [hm] at hmb
  (try rw [hm] at HSQ)
  have HHM := hide hm
  have HAT := hide hat_
  have HRC := hide hrc
  have HRCC := hide hrcC
  have HATN := hide hat
  obtain ⟨c0, c1, c2, c3, c4, c5, c6, c7, c8, c9, c10, c11⟩ := h.reads
  rw [hIL] at c2
  have bf := fun i => h.b.frozen i
  have HLN := hide hIL
  have H := hide h
  have HMB := hide hmb
  have H90 := hide h90
  have H91 := hide h91
  clear h hI hv hn hn1 hnn hrc hat_ hrcC hat hmb h91 hn2 hIL
  obtain ⟨len, hlen⟩ : ∃ q, l.length = q := ⟨_, rfl⟩
  rw [hlen] at HNU HN0 HN1 hl ⊢
  have HLEN := hide hlen
  clear hlen
  cases wt
  · go_enter Tryd.func35, Tryd.ntmps35
    go_wp2_with fail
    refine (HN0.out _ (Below.refl _ _)).mono ?_; rintro e w1 ⟨rfl, rfl⟩
    go_wp2_with fail
    (try rw [hm])
    go_region
    go_wp2_with fail
    obtain ⟨U, hU, HU, KU⟩ := named (R := fun V => TrB w0 V z g cap ⟨R, C, cs, row, col, p, s, false, bl⟩ ∧ K2 z g W V) ⟨(H.out.setZ ⟨R, C, cs, row, col, p, s, false, bl⟩ 10 (.bool false) rfl rfl).low (Below.refl _ _).drew, (K2.set _ _ _ _ _).trans K2.drew⟩
    rw [hU]
    have HU := hide HU
    have KU := hide KU
    clear hU H c0 c1 c2 c3 c4 c5 c6 c7 c8 c9 c10 c11 bf
    obtain ⟨c0, c1, c2, c3, c4, -⟩ := HU.out.reads
    rw [HLN.out] at c2
    have bf := fun i => HU.out.b.frozen i
    go_wp2_with fail
    have b1 := HATN.out
    have b2 := HRCC.out
    have b3 := HNN.out
    have b4 := HAT.out
    refine Calls.mono (rerase_i ⟨R, C, cs, row, col, p, s, false, bl⟩ HU.out (HIV.out.waits false) 0 (at_ + 1) (by omega) (by show (at_ + 1) ≤ R * C; rw [HNE.out]; omega) _ _ (by first | rfl | omega | (unfold wrap64; omega) | (simp only [IntKind.wrap_i64]; omega)) (by first | rfl | omega | (unfold wrap64; omega) | (simp only [IntKind.wrap_i64]; omega)) HSQ.out.symm) ?_
    rintro e w2 ⟨rfl, g2, cap2, H2, K2', hg2⟩
    clear b1 b2 b3 b4
    go_wp2
    go_end0
    exact Mr.mk H2 (KU.out.trans K2') (by rcases hg2 with h | h; exact .inl h; exact .inr (Nat.le_trans KU.out.size h))
  · go_enter Tryd.func35, Tryd.ntmps35
    go_wp2_with fail
    refine (HN0.out _ (Below.refl _ _)).mono ?_; rintro e w1 ⟨rfl, rfl⟩
    go_wp2_with fail
    (try rw [hm])
    go_region
    go_wp2_with fail
    obtain ⟨U, hU, HU, KU⟩ := named (R := fun V => TrB w0 V z g cap ⟨R, C, cs, row, col, p, s, false, bl⟩ ∧ K2 z g W V) ⟨(H.out.setZ ⟨R, C, cs, row, col, p, s, false, bl⟩ 10 (.bool false) rfl rfl).low (Below.refl _ _).drew, (K2.set _ _ _ _ _).trans K2.drew⟩
    rw [hU]
    have HU := hide HU
    have KU := hide KU
    clear hU H c0 c1 c2 c3 c4 c5 c6 c7 c8 c9 c10 c11 bf
    obtain ⟨c0, c1, c2, c3, c4, -⟩ := HU.out.reads
    rw [HLN.out] at c2
    have bf := fun i => HU.out.b.frozen i
    go_wp2_with fail
    have b1 := HATN.out
    have b2 := HRCC.out
    have b3 := HNN.out
    have b4 := HAT.out
    refine Calls.mono (rerase_i ⟨R, C, cs, row, col, p, s, false, bl⟩ HU.out (HIV.out.waits false) 0 (at_ + 1) (by omega) (by show (at_ + 1) ≤ R * C; rw [HNE.out]; omega) _ _ (by first | rfl | omega | (unfold wrap64; omega) | (simp only [IntKind.wrap_i64]; omega)) (by first | rfl | omega | (unfold wrap64; omega) | (simp only [IntKind.wrap_i64]; omega)) HSQ.out.symm) ?_
    rintro e w2 ⟨rfl, g2, cap2, H2, K2', hg2⟩
    clear b1 b2 b3 b4
    go_wp2
    go_end0
    exact Mr.mk H2 (KU.out.trans K2') (by rcases hg2 with h | h; exact .inl h; exact .inr (Nat.le_trans KU.out.size h))
set_option maxHeartbeats 8000000 in
theorem rtseq_f74_2 {w0 W : World} {z g cap : Nat} (t : Tm) (h : TrB w0 W z g cap t) (hI : Inv t) (fin : Int) (pv : Value) (l : List Int) (hv : NumsV W pv l) (hl : l.length ≤ 100000) (h9 : ∀ x ∈ l, 0 ≤ x ∧ x ≤ 9999) (hf : fin = 74) (hk : l.getD 0 0 = 2) :
    Calls Tryd.prog 35 #[.pointer (some ⟨z, 0, none⟩), pv, .int .u8 fin] W (Mr w0 W z g (seqM t l fin)) := by
  have HIV := hide hI
  have hIR := hI.hR
  have hIC := hI.hC
  have hIL := hI.hL
  have hrw := hI.hrow
  have hcl := hI.hcol
  obtain ⟨R, C, cs, row, col, p, s, wt, bl⟩ := t
  dsimp only at hIR hIC hIL hrw hcl
  obtain ⟨A, c, rfl⟩ := hv.form
  have HSQ := hide (show seqM ⟨R, C, cs, row, col, p, s, wt, bl⟩ l fin = ⟨R, C, wipeN cs 0 (cs.length - 0), row, col, p, s, false, bl⟩ from by
    subst hf
    show ({ clearM ⟨R, C, cs, row, col, p, s, wt, bl⟩ (l.getD 0 0) 0 cs.length with waits := false } : Tm) = _
    rw [hk]; rfl)
  subst hf
  have h90 := getD_bd h9 0
  have h91 := getD_bd h9 1
  have HNU := hide hv
  have HN0 := hide (fun V (hb : Below W.heap.size W V) => (show Calls Tryd.prog 64 #[.slice A l.length c, .int .i64 0] V fun e w' => e = .returned (.int .i64 (l.getD 0 0)) ∧ V = w' from rnum_any (.slice A l.length c) l 0 V (hv.below hb) hl (by omega)))
  have HN1 := hide (fun V (hb : Below W.heap.size W V) => (show Calls Tryd.prog 64 #[.slice A l.length c, .int .i64 1] V fun e w' => e = .returned (.int .i64 (l.getD 1 0)) ∧ V = w' from rnum_any (.slice A l.length c) l 1 V (hv.below hb) hl (by omega)))
  obtain ⟨nn, hnn⟩ : ∃ x, R * C = x := ⟨_, rfl⟩
  have hn2 : nn ≤ 20000 := by rw [← hnn]; exact Nat.le_trans (Nat.mul_le_mul hIR.2 hIC.2) (by decide)
  have hat := at_lt hI
  dsimp only at hat
  obtain ⟨rc, hrc⟩ : ∃ x, row * C = x := ⟨_, rfl⟩
  obtain ⟨at_, hat_⟩ : ∃ x, rc + col = x := ⟨_, rfl⟩
  have hrcC : rc + C ≤ nn := by
    rw [← hrc, ← hnn]
    have : (row + 1) * C ≤ R * C := Nat.mul_le_mul_right C hrw
    rw [Nat.add_mul, Nat.one_mul] at this; exact this
  rw [hrc, hat_, hnn] at hat
  rw [hnn] at hIL
  (try rw [hrc] at HSQ)
  (try rw [hat_] at HSQ)
  have hw1 : IntKind.i64.wrap ((row : Int) * (C : Int)) = (rc : Int) := by
    rw [show (row : Int) * (C : Int) = (rc : Int) by rw [← hrc]; push_cast; rfl]
    exact Go.wrap_small _ (by omega) (by omega)
  have hw2 : IntKind.i64.wrap ((rc : Int) + (col : Int)) = (at_ : Int) := (Go.wrap_small _ (by omega) (by omega)).trans (by omega)
  obtain ⟨n, hn⟩ : ∃ n, l.getD 0 0 = n := ⟨_, rfl⟩
  obtain ⟨n1, hn1⟩ : ∃ n, l.getD 1 0 = n := ⟨_, rfl⟩
  rw [hn] at h90 HN0
  (try rw [hn] at HSQ)
  rw [hn1] at h91 HN1
  (try rw [hn1] at HSQ)
  obtain rfl : n = 2 := hn.symm.trans hk
  clear hk
  have HNN := hide hn2
  have HNE := hide hnn
  (try rw [hIL] at HSQ)
  obtain ⟨m, hm⟩ : ∃ m, max (2 : Int) 1 = m := ⟨_, rfl⟩
  have hmb := max_one h90
  rw [hm] at hmb
  (try rw [hm] at HSQ)
  have HHM := hide hm
  have HAT := hide hat_
  have HRC := hide hrc
  have HRCC := hide hrcC
  have HATN := hide hat
  obtain ⟨c0, c1, c2, c3, c4, c5, c6, c7, c8, c9, c10, c11⟩ := h.reads
  rw [hIL] at c2
  have bf := fun i => h.b.frozen i
  have HLN := hide hIL
  have H := hide h
  have HMB := hide hmb
  have H90 := hide h90
  have H91 := hide h91
  clear h hI hv hn hn1 hnn hrc hat_ hrcC hat hmb h91 hn2 hIL
  obtain ⟨len, hlen⟩ : ∃ q, l.length = q := ⟨_, rfl⟩
  rw [hlen] at HNU HN0 HN1 hl ⊢
  have HLEN := hide hlen
  clear hlen
  cases wt
  · go_enter Tryd.func35, Tryd.ntmps35
    go_wp2_with fail
    refine (HN0.out _ (Below.refl _ _)).mono ?_; rintro e w1 ⟨rfl, rfl⟩
    go_wp2_with fail
    (try rw [hm])
    go_region
    go_wp2_with fail
    obtain ⟨U, hU, HU, KU⟩ := named (R := fun V => TrB w0 V z g cap ⟨R, C, cs, row, col, p, s, false, bl⟩ ∧ K2 z g W V) ⟨(H.out.setZ ⟨R, C, cs, row, col, p, s, false, bl⟩ 10 (.bool false) rfl rfl).low (Below.refl _ _).drew, (K2.set _ _ _ _ _).trans K2.drew⟩
    rw [hU]
    have HU := hide HU
    have KU := hide KU
    clear hU H c0 c1 c2 c3 c4 c5 c6 c7 c8 c9 c10 c11 bf
    obtain ⟨c0, c1, c2, c3, c4, -⟩ := HU.out.reads
    rw [HLN.out] at c2
    have bf := fun i => HU.out.b.frozen i
    go_wp2_with fail
    have b1 := HATN.out
    have b2 := HRCC.out
    have b3 := HNN.out
    have b4 := HAT.out
    refine Calls.mono (rerase_i ⟨R, C, cs, row, col, p, s, false, bl⟩ HU.out (HIV.out.waits false) 0 nn (by omega) (by show nn ≤ R * C; rw [HNE.out]; omega) _ _ (by first | rfl | omega | (unfold wrap64; omega) | (simp only [IntKind.wrap_i64]; omega)) (by first | rfl | omega | (unfold wrap64; omega) | (simp only [IntKind.wrap_i64]; omega)) HSQ.out.symm) ?_
    rintro e w2 ⟨rfl, g2, cap2, H2, K2', hg2⟩
    clear b1 b2 b3 b4
    go_wp2
    go_end0
    exact Mr.mk H2 (KU.out.trans K2') (by rcases hg2 with h | h; exact .inl h; exact .inr (Nat.le_trans KU.out.size h))
  · go_enter Tryd.func35, Tryd.ntmps35
    go_wp2_with fail
    refine (HN0.out _ (Below.refl _ _)).mono ?_; rintro e w1 ⟨rfl, rfl⟩
    go_wp2_with fail
    (try rw [hm])
    go_region
    go_wp2_with fail
    obtain ⟨U, hU, HU, KU⟩ := named (R := fun V => TrB w0 V z g cap ⟨R, C, cs, row, col, p, s, false, bl⟩ ∧ K2 z g W V) ⟨(H.out.setZ ⟨R, C, cs, row, col, p, s, false, bl⟩ 10 (.bool false) rfl rfl).low (Below.refl _ _).drew, (K2.set _ _ _ _ _).trans K2.drew⟩
    rw [hU]
    have HU := hide HU
    have KU := hide KU
    clear hU H c0 c1 c2 c3 c4 c5 c6 c7 c8 c9 c10 c11 bf
    obtain ⟨c0, c1, c2, c3, c4, -⟩ := HU.out.reads
    rw [HLN.out] at c2
    have bf := fun i => HU.out.b.frozen i
    go_wp2_with fail
    have b1 := HATN.out
    have b2 := HRCC.out
    have b3 := HNN.out
    have b4 := HAT.out
    refine Calls.mono (rerase_i ⟨R, C, cs, row, col, p, s, false, bl⟩ HU.out (HIV.out.waits false) 0 nn (by omega) (by show nn ≤ R * C; rw [HNE.out]; omega) _ _ (by first | rfl | omega | (unfold wrap64; omega) | (simp only [IntKind.wrap_i64]; omega)) (by first | rfl | omega | (unfold wrap64; omega) | (simp only [IntKind.wrap_i64]; omega)) HSQ.out.symm) ?_
    rintro e w2 ⟨rfl, g2, cap2, H2, K2', hg2⟩
    clear b1 b2 b3 b4
    go_wp2
    go_end0
    exact Mr.mk H2 (KU.out.trans K2') (by rcases hg2 with h | h; exact .inl h; exact .inr (Nat.le_trans KU.out.size h))
set_option maxHeartbeats 8000000 in
theorem rtseq_f74_n {w0 W : World} {z g cap : Nat} (t : Tm) (h : TrB w0 W z g cap t) (hI : Inv t) (fin : Int) (pv : Value) (l : List Int) (hv : NumsV W pv l) (hl : l.length ≤ 100000) (h9 : ∀ x ∈ l, 0 ≤ x ∧ x ≤ 9999) (hf : fin = 74) (h0 : ¬ l.getD 0 0 = 0) (h1 : ¬ l.getD 0 0 = 1) (h2 : ¬ l.getD 0 0 = 2) :
    Calls Tryd.prog 35 #[.pointer (some ⟨z, 0, none⟩), pv, .int .u8 fin] W (Mr w0 W z g (seqM t l fin)) := by
  have HIV := hide hI
  have hIR := hI.hR
  have hIC := hI.hC
  have hIL := hI.hL
  have hrw := hI.hrow
  have hcl := hI.hcol
  obtain ⟨R, C, cs, row, col, p, s, wt, bl⟩ := t
  dsimp only at hIR hIC hIL hrw hcl
  obtain ⟨A, c, rfl⟩ := hv.form
  have HSQ := hide (show seqM ⟨R, C, cs, row, col, p, s, wt, bl⟩ l fin = ⟨R, C, cs, row, col, p, s, false, bl⟩ from by
    subst hf
    show ({ clearM ⟨R, C, cs, row, col, p, s, wt, bl⟩ (l.getD 0 0) 0 cs.length with waits := false } : Tm) = _
    unfold clearM
    dsimp only
    rw [if_neg h0, if_neg h1, if_neg h2])
  subst hf
  have h90 := getD_bd h9 0
  have h91 := getD_bd h9 1
  have HNU := hide hv
  have HN0 := hide (fun V (hb : Below W.heap.size W V) => (show Calls Tryd.prog 64 #[.slice A l.length c, .int .i64 0] V fun e w' => e = .returned (.int .i64 (l.getD 0 0)) ∧ V = w' from rnum_any (.slice A l.length c) l 0 V (hv.below hb) hl (by omega)))
  have HN1 := hide (fun V (hb : Below W.heap.size W V) => (show Calls Tryd.prog 64 #[.slice A l.length c, .int .i64 1] V fun e w' => e = .returned (.int .i64 (l.getD 1 0)) ∧ V = w' from rnum_any (.slice A l.length c) l 1 V (hv.below hb) hl (by omega)))
  obtain ⟨nn, hnn⟩ : ∃ x, R * C = x := ⟨_, rfl⟩
  have hn2 : nn ≤ 20000 := by rw [← hnn]; exact Nat.le_trans (Nat.mul_le_mul hIR.2 hIC.2) (by decide)
  have hat := at_lt hI
  dsimp only at hat
  obtain ⟨rc, hrc⟩ : ∃ x, row * C = x := ⟨_, rfl⟩
  obtain ⟨at_, hat_⟩ : ∃ x, rc + col = x := ⟨_, rfl⟩
  have hrcC : rc + C ≤ nn := by
    rw [← hrc, ← hnn]
    have : (row + 1) * C ≤ R * C := Nat.mul_le_mul_right C hrw
    rw [Nat.add_mul, Nat.one_mul] at this; exact this
  rw [hrc, hat_, hnn] at hat
  rw [hnn] at hIL
  (try rw [hrc] at HSQ)
  (try rw [hat_] at HSQ)
  have hw1 : IntKind.i64.wrap ((row : Int) * (C : Int)) = (rc : Int) := by
    rw [show (row : Int) * (C : Int) = (rc : Int) by rw [← hrc]; push_cast; rfl]
    exact Go.wrap_small _ (by omega) (by omega)
  have hw2 : IntKind.i64.wrap ((rc : Int) + (col : Int)) = (at_ : Int) := (Go.wrap_small _ (by omega) (by omega)).trans (by omega)
  obtain ⟨n, hn⟩ : ∃ n, l.getD 0 0 = n := ⟨_, rfl⟩
  obtain ⟨n1, hn1⟩ : ∃ n, l.getD 1 0 = n := ⟨_, rfl⟩
  rw [hn] at h90 HN0
  (try rw [hn] at HSQ)
  rw [hn1] at h91 HN1
  (try rw [hn1] at HSQ)
  rw [hn] at h0 h1 h2
  have e0 : (n == 0) = false := beq_eq_false_iff_ne.2 h0
  have e1 : (n == 1) = false := beq_eq_false_iff_ne.2 h1
  have e2 : (n == 2) = false := beq_eq_false_iff_ne.2 h2
  clear h0 h1 h2
  obtain ⟨m, hm⟩ : ∃ m, max n 1 = m := ⟨_, rfl⟩
  have hmb := max_one h90
  rw [hm] at hmb
  (try rw [hm] at HSQ)
  have HHM := hide hm
  have HAT := hide hat_
  have HRC := hide hrc
  have HRCC := hide hrcC
  have HATN := hide hat
  obtain ⟨c0, c1, c2, c3, c4, c5, c6, c7, c8, c9, c10, c11⟩ := h.reads
  rw [hIL] at c2
  have bf := fun i => h.b.frozen i
  have HLN := hide hIL
  have H := hide h
  have HMB := hide hmb
  have H90 := hide h90
  have H91 := hide h91
  clear h hI hv hn hn1 hnn hrc hat_ hrcC hat hmb h91 hn2 hIL
  obtain ⟨len, hlen⟩ : ∃ q, l.length = q := ⟨_, rfl⟩
  rw [hlen] at HNU HN0 HN1 hl ⊢
  have HLEN := hide hlen
  clear hlen
  cases wt
  · go_enter Tryd.func35, Tryd.ntmps35
    go_wp2_with fail
    refine (HN0.out _ (Below.refl _ _)).mono ?_; rintro e w1 ⟨rfl, rfl⟩
    go_wp2_with fail
    (try rw [hm])
    go_region
    go_wp2_with fail
    obtain ⟨U, hU, HU, KU⟩ := named (R := fun V => TrB w0 V z g cap ⟨R, C, cs, row, col, p, s, false, bl⟩ ∧ K2 z g W V) ⟨(H.out.setZ ⟨R, C, cs, row, col, p, s, false, bl⟩ 10 (.bool false) rfl rfl).low (Below.refl _ _).drew, (K2.set _ _ _ _ _).trans K2.drew⟩
    rw [hU]
    have HU := hide HU
    have KU := hide KU
    clear hU H c0 c1 c2 c3 c4 c5 c6 c7 c8 c9 c10 c11 bf
    go_wp2
    go_end0
    rw [HSQ.out]
    exact Mr.mk HU.out KU.out (.inl rfl)
  · go_enter Tryd.func35, Tryd.ntmps35
    go_wp2_with fail
    refine (HN0.out _ (Below.refl _ _)).mono ?_; rintro e w1 ⟨rfl, rfl⟩
    go_wp2_with fail
    (try rw [hm])
    go_region
    go_wp2_with fail
    obtain ⟨U, hU, HU, KU⟩ := named (R := fun V => TrB w0 V z g cap ⟨R, C, cs, row, col, p, s, false, bl⟩ ∧ K2 z g W V) ⟨(H.out.setZ ⟨R, C, cs, row, col, p, s, false, bl⟩ 10 (.bool false) rfl rfl).low (Below.refl _ _).drew, (K2.set _ _ _ _ _).trans K2.drew⟩
    rw [hU]
    have HU := hide HU
    have KU := hide KU
    clear hU H c0 c1 c2 c3 c4 c5 c6 c7 c8 c9 c10 c11 bf
    go_wp2
    go_end0
    rw [HSQ.out]
    exact Mr.mk HU.out KU.out (.inl rfl)
end Go.Proofs.YtmemdhmjhckmaaaDoor
