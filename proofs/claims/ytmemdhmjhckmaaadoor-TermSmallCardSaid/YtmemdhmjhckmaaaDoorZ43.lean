/- The document's terminal: control sequences. The document's terminal: every control sequence. Contracts of limnerref02.Shown, Tab and widths.Tab. -/
import Derived.Test.YtmemdhmjhckmaaaDoorZ36
import Derived.Test.YtmemdhmjhckmaaaDoorZ37
import Derived.Test.YtmemdhmjhckmaaaDoorZ38
import Derived.Test.YtmemdhmjhckmaaaDoorZ39
import Derived.Test.YtmemdhmjhckmaaaDoorZ40
import Derived.Test.YtmemdhmjhckmaaaDoorZ41
import Derived.Test.YtmemdhmjhckmaaaDoorZ42
import Derived.Test.YtmemdhmjhckmaaaDoorZ2
import Derived.Test.YtmemdhmjhckmaaaDoorZ9
import Derived.Test.YtmemdhmjhckmaaaDoorZ5
namespace Go.Proofs.YtmemdhmjhckmaaaDoor
open Go.RowKit
set_option maxRecDepth 100000

set_option maxHeartbeats 8000000 in
theorem rtseq_f109_0 {w0 W : World} {z g cap : Nat} (t : Tm) (h : TrB w0 W z g cap t) (hI : Inv t) (fin : Int) (pv : Value) (l : List Int) (hv : NumsV W pv l) (hl : l.length ≤ 100000) (h9 : ∀ x ∈ l, 0 ≤ x ∧ x ≤ 9999) (hf : fin = 109) (h0 : l.length = 0) :
    Calls Tryd.prog 35 #[.pointer (some ⟨z, 0, none⟩), pv, .int .u8 fin] W (Mr w0 W z g (seqM t l fin)) := by
  have HIV := hide hI
  have hIR := hI.hR
  have hIC := hI.hC
  have hIL := hI.hL
  have hrw := hI.hrow
  have hcl := hI.hcol
  obtain ⟨R, C, cs, row, col, p, s, wt, bl⟩ := t
  dsimp only at hIR hIC hIL hrw hcl
  obtain ⟨A, c, rfl⟩ := hv.form
  have HSQ := hide (show seqM ⟨R, C, cs, row, col, p, s, wt, bl⟩ l fin = ⟨R, C, cs, row, col, p, ⟨s.r, s.w, 0, false, false, false⟩, wt, bl⟩ from by subst hf; show lookM ⟨R, C, cs, row, col, p, s, wt, bl⟩ l = _; unfold lookM nzL; rw [if_pos h0]; rfl)
  subst hf
  have h90 := getD_bd h9 0
  have h91 := getD_bd h9 1
  have HNU := hide hv
  have HN0 := hide (fun V (hb : Below W.heap.size W V) => (show Calls Tryd.prog 64 #[.slice A l.length c, .int .i64 0] V fun e w' => e = .returned (.int .i64 (l.getD 0 0)) ∧ V = w' from rnum_any (.slice A l.length c) l 0 V (hv.below hb) hl (by omega)))
  have HN1 := hide (fun V (hb : Below W.heap.size W V) => (show Calls Tryd.prog 64 #[.slice A l.length c, .int .i64 1] V fun e w' => e = .returned (.int .i64 (l.getD 1 0)) ∧ V = w' from rnum_any (.slice A l.length c) l 1 V (hv.below hb) hl (by omega)))
  obtain ⟨nn, hnn⟩ : ∃ x, R * C = x := ⟨_, rfl⟩
  have hn2 : nn ≤ 20000 := by rw [← hnn]; exact Nat.le_trans (Nat.mul_le_mul hIR.2 hIC.2) (by decide)
  have hat := at_lt hI
  dsimp only at hat
  obtain ⟨rc, hrc⟩ : ∃ x, row * C = x := ⟨_, rfl⟩
  obtain ⟨at_, hat_⟩ : ∃ x, rc + col = x := ⟨_, rfl⟩
  have hrcC : rc + C ≤ nn := by
    rw [← hrc, ← hnn]
    have : (row + 1) * C ≤ R * C := Nat.mul_le_mul_right C hrw
    rw [Nat.add_mul, Nat.one_mul] at this; exact this
  rw [hrc, hat_, hnn] at hat
  rw [hnn] at hIL
  (try rw [hrc] at HSQ)
  (try rw [hat_] at HSQ)
  have hw1 : IntKind.i64.wrap ((row : Int) * (C : Int)) = (rc : Int) := by
    rw [show (row : Int) * (C : Int) = (rc : Int) by rw [← hrc]; push_cast; rfl]
    exact Go.wrap_small _ (by omega) (by omega)
  have hw2 : IntKind.i64.wrap ((rc : Int) + (col : Int)) = (at_ : Int) := (Go.wrap_small _ (by omega) (by omega)).trans (by omega)
  obtain ⟨n, hn⟩ : ∃ n, l.getD 0 0 = n := ⟨_, rfl⟩
  obtain ⟨n1, hn1⟩ : ∃ n, l.getD 1 0 = n := ⟨_, rfl⟩
  rw [hn] at h90 HN0
  (try rw [hn] at HSQ)
  rw [hn1] at h91 HN1
  (try rw [hn1] at HSQ)
  obtain ⟨m, hm⟩ : ∃ m, max n 1 = m := ⟨_, rfl⟩
  have hmb := max_one h90
  rw [hm] at hmb
  (try rw [hm] at HSQ)
  have HHM := hide hm
  have HAT := hide hat_
  have HRC := hide hrc
  have HRCC := hide hrcC
  have HATN := hide hat
  obtain ⟨c0, c1, c2, c3, c4, c5, c6, c7, c8, c9, c10, c11⟩ := h.reads
  rw [hIL] at c2
  have bf := fun i => h.b.frozen i
  have HLN := hide hIL
  have H := hide h
  have HMB := hide hmb
  have H90 := hide h90
  have H91 := hide h91
  clear h hI hv hn hn1 hnn hrc hat_ hrcC hat hmb h91 hn2 hIL
  obtain ⟨sr, sw, fg, bo, un, iv⟩ := s
  obtain ⟨len, hlen⟩ : ∃ q, l.length = q := ⟨_, rfl⟩
  rw [hlen] at HNU HN0 HN1 hl ⊢
  have HLEN := hide hlen
  clear hlen
  obtain rfl : len = 0 := HLEN.out.symm.trans h0
  clear h0
  cases wt
  · go_enter Tryd.func35, Tryd.ntmps35
    go_wp2_with fail
    refine (HN0.out _ (Below.refl _ _)).mono ?_; rintro e w1 ⟨rfl, rfl⟩
    go_wp2_with fail
    (try rw [hm])
    go_region
    go_wp2_with fail
    have H2 := hide ((((((H.out.setZ ⟨R, C, cs, row, col, p, ⟨sr, sw, fg, bo, un, iv⟩, false, bl⟩ 10 (.bool false) rfl rfl).setZ ⟨R, C, cs, row, col, p, ⟨sr, sw, 0, bo, un, iv⟩, false, bl⟩ 6 (.int .i64 0) rfl rfl).setZ ⟨R, C, cs, row, col, p, ⟨sr, sw, 0, false, un, iv⟩, false, bl⟩ 7 (.bool false) rfl rfl).setZ ⟨R, C, cs, row, col, p, ⟨sr, sw, 0, false, false, iv⟩, false, bl⟩ 8 (.bool false) rfl rfl).setZ ⟨R, C, cs, row, col, p, ⟨sr, sw, 0, false, false, false⟩, false, bl⟩ 9 (.bool false) rfl rfl))
    obtain ⟨V, hV, HV, KV⟩ := named (R := fun V => TrB w0 V z g cap ⟨R, C, cs, row, col, p, ⟨sr, sw, 0, false, false, false⟩, false, bl⟩ ∧ K2 z g W V) ⟨H2.out.low (Below.refl _ _).drew, ((((((K2.set z g 10 W (.bool false)).trans (K2.set _ _ _ _ _)).trans (K2.set _ _ _ _ _)).trans (K2.set _ _ _ _ _)).trans (K2.set _ _ _ _ _)).trans K2.drew)⟩
    rw [hV]
    clear hV H c0 c1 c2 c3 c4 c5 c6 c7 c8 c9 c10 c11 bf
    go_loopw [10] (fun jv wr => jv = .int .i64 0 ∧ wr = V) (fun jv _ => 0)
    case atStart => exact ⟨rfl, rfl⟩
    case round =>
      obtain ⟨rfl, rfl⟩ := hrel
      go_wp2
      go_end0
      rw [HSQ.out]
      exact Mr.mk HV KV (.inl rfl)
  · go_enter Tryd.func35, Tryd.ntmps35
    go_wp2_with fail
    refine (HN0.out _ (Below.refl _ _)).mono ?_; rintro e w1 ⟨rfl, rfl⟩
    go_wp2_with fail
    (try rw [hm])
    go_region
    go_wp2_with fail
    have H2 := hide ((((((H.out.setZ ⟨R, C, cs, row, col, p, ⟨sr, sw, fg, bo, un, iv⟩, true, bl⟩ 10 (.bool true) rfl rfl).setZ ⟨R, C, cs, row, col, p, ⟨sr, sw, 0, bo, un, iv⟩, true, bl⟩ 6 (.int .i64 0) rfl rfl).setZ ⟨R, C, cs, row, col, p, ⟨sr, sw, 0, false, un, iv⟩, true, bl⟩ 7 (.bool false) rfl rfl).setZ ⟨R, C, cs, row, col, p, ⟨sr, sw, 0, false, false, iv⟩, true, bl⟩ 8 (.bool false) rfl rfl).setZ ⟨R, C, cs, row, col, p, ⟨sr, sw, 0, false, false, false⟩, true, bl⟩ 9 (.bool false) rfl rfl))
    obtain ⟨V, hV, HV, KV⟩ := named (R := fun V => TrB w0 V z g cap ⟨R, C, cs, row, col, p, ⟨sr, sw, 0, false, false, false⟩, true, bl⟩ ∧ K2 z g W V) ⟨H2.out.low (Below.refl _ _).drew, ((((((K2.set z g 10 W (.bool true)).trans (K2.set _ _ _ _ _)).trans (K2.set _ _ _ _ _)).trans (K2.set _ _ _ _ _)).trans (K2.set _ _ _ _ _)).trans K2.drew)⟩
    rw [hV]
    clear hV H c0 c1 c2 c3 c4 c5 c6 c7 c8 c9 c10 c11 bf
    go_loopw [10] (fun jv wr => jv = .int .i64 0 ∧ wr = V) (fun jv _ => 0)
    case atStart => exact ⟨rfl, rfl⟩
    case round =>
      obtain ⟨rfl, rfl⟩ := hrel
      go_wp2
      go_end0
      rw [HSQ.out]
      exact Mr.mk HV KV (.inl rfl)
set_option maxHeartbeats 8000000 in
theorem rtseq_f109_1 {w0 W : World} {z g cap : Nat} (t : Tm) (h : TrB w0 W z g cap t) (hI : Inv t) (fin : Int) (pv : Value) (l : List Int) (hv : NumsV W pv l) (hl : l.length ≤ 100000) (h9 : ∀ x ∈ l, 0 ≤ x ∧ x ≤ 9999) (hf : fin = 109) (h0 : ¬ l.length = 0) :
    Calls Tryd.prog 35 #[.pointer (some ⟨z, 0, none⟩), pv, .int .u8 fin] W (Mr w0 W z g (seqM t l fin)) := by
  have HIV := hide hI
  have hIR := hI.hR
  have hIC := hI.hC
  have hIL := hI.hL
  have hrw := hI.hrow
  have hcl := hI.hcol
  obtain ⟨R, C, cs, row, col, p, s, wt, bl⟩ := t
  dsimp only at hIR hIC hIL hrw hcl
  obtain ⟨A, c, rfl⟩ := hv.form
  have HSQ := hide (show seqM ⟨R, C, cs, row, col, p, s, wt, bl⟩ l fin = ⟨R, C, cs, row, col, p, l.foldl lookS s, wt, bl⟩ from by subst hf; show lookM ⟨R, C, cs, row, col, p, s, wt, bl⟩ l = _; unfold lookM nzL; rw [if_neg h0])
  subst hf
  have h90 := getD_bd h9 0
  have h91 := getD_bd h9 1
  have HNU := hide hv
  have HN0 := hide (fun V (hb : Below W.heap.size W V) => (show Calls Tryd.prog 64 #[.slice A l.length c, .int .i64 0] V fun e w' => e = .returned (.int .i64 (l.getD 0 0)) ∧ V = w' from rnum_any (.slice A l.length c) l 0 V (hv.below hb) hl (by omega)))
  have HN1 := hide (fun V (hb : Below W.heap.size W V) => (show Calls Tryd.prog 64 #[.slice A l.length c, .int .i64 1] V fun e w' => e = .returned (.int .i64 (l.getD 1 0)) ∧ V = w' from rnum_any (.slice A l.length c) l 1 V (hv.below hb) hl (by omega)))
  obtain ⟨nn, hnn⟩ : ∃ x, R * C = x := ⟨_, rfl⟩
  have hn2 : nn ≤ 20000 := by rw [← hnn]; exact Nat.le_trans (Nat.mul_le_mul hIR.2 hIC.2) (by decide)
  have hat := at_lt hI
  dsimp only at hat
  obtain ⟨rc, hrc⟩ : ∃ x, row * C = x := ⟨_, rfl⟩
  obtain ⟨at_, hat_⟩ : ∃ x, rc + col = x := ⟨_, rfl⟩
  have hrcC : rc + C ≤ nn := by
    rw [← hrc, ← hnn]
    have : (row + 1) * C ≤ R * C := Nat.mul_le_mul_right C hrw
    rw [Nat.add_mul, Nat.one_mul] at this; exact this
  rw [hrc, hat_, hnn] at hat
  rw [hnn] at hIL
  (try rw [hrc] at HSQ)
  (try rw [hat_] at HSQ)
  have hw1 : IntKind.i64.wrap ((row : Int) * (C : Int)) = (rc : Int) := by
    rw [show (row : Int) * (C : Int) = (rc : Int) by rw [← hrc]; push_cast; rfl]
    exact Go.wrap_small _ (by omega) (by omega)
  have hw2 : IntKind.i64.wrap ((rc : Int) + (col : Int)) = (at_ : Int) := (Go.wrap_small _ (by omega) (by omega)).trans (by omega)
  obtain ⟨n, hn⟩ : ∃ n, l.getD 0 0 = n := ⟨_, rfl⟩
  obtain ⟨n1, hn1⟩ : ∃ n, l.getD 1 0 = n := ⟨_, rfl⟩
  rw [hn] at h90 HN0
  (try rw [hn] at HSQ)
  rw [hn1] at h91 HN1
  (try rw [hn1] at HSQ)
  obtain ⟨m, hm⟩ : ∃ m, max n 1 = m := ⟨_, rfl⟩
  have hmb := max_one h90
  rw [hm] at hmb
  (try rw [hm] at HSQ)
  have HHM := hide hm
  have HAT := hide hat_
  have HRC := hide hrc
  have HRCC := hide hrcC
  have HATN := hide hat
  obtain ⟨c0, c1, c2, c3, c4, c5, c6, c7, c8, c9, c10, c11⟩ := h.reads
  rw [hIL] at c2
  have bf := fun i => h.b.frozen i
  have HLN := hide hIL
  have H := hide h
  have HMB := hide hmb
  have H90 := hide h90
  have H91 := hide h91
  clear h hI hv hn hn1 hnn hrc hat_ hrcC hat hmb h91 hn2 hIL
  obtain ⟨len, hlen⟩ : ∃ q, l.length = q := ⟨_, rfl⟩
  rw [hlen] at HNU HN0 HN1 hl ⊢
  have HLEN := hide hlen
  clear hlen
  have hlb : ((len : Int) == 0) = false := by rw [beq_eq_false_iff_ne]; have := HLEN.out; omega
  clear h0
  cases wt
  · as_aux_lemma =>
      go_enter Tryd.func35, Tryd.ntmps35
      go_wp2_with fail
      refine (HN0.out _ (Below.refl _ _)).mono ?_; rintro e w1 ⟨rfl, rfl⟩
      go_wp2_with fail
      (try rw [hm])
      go_region
      go_wp2_with fail
      have HNK := hide (fun V (hk : K2 z g W V) => HNU.out.k2R H.out hk)
      obtain ⟨U, hU, HU, KU⟩ := named (R := fun V => TrB w0 V z g cap ⟨R, C, cs, row, col, p, s, false, bl⟩ ∧ K2 z g W V) ⟨(H.out.setZ ⟨R, C, cs, row, col, p, s, false, bl⟩ 10 (.bool false) rfl rfl).low (Below.refl _ _).drew, (K2.set _ _ _ _ _).trans K2.drew⟩
      rw [hU]
      have HU := hide HU
      have KU := hide KU
      clear hU H c0 c1 c2 c3 c4 c5 c6 c7 c8 c9 c10 c11 bf
      (try go_wp2_with fail)
      go_loopw [10] (fun jv wr => ∃ k : Nat, jv = .int .i64 (k : Int) ∧ k ≤ len ∧ Hid (TrB w0 wr z g cap ⟨R, C, cs, row, col, p, (l.take k).foldl lookS s, false, bl⟩) ∧ Hid (K2 z g W wr)) (fun jv _ => len - (intOf jv).toNat)
      case atStart => exact ⟨0, rfl, by omega, HU, KU⟩
      case round =>
        obtain ⟨k, rfl, hk, HW, HK⟩ := hrel
        by_cases hlt : k < len
        · as_aux_lemma =>
          have hkm : (k : Int) < (len : Int) := by omega
          obtain ⟨x, hx⟩ : ∃ x, l[k]? = some x := ⟨_, List.getElem?_eq_getElem (by rw [HLEN.out]; exact hlt)⟩
          obtain ⟨A', c', ev, hcx⟩ := HNK.out _ HK.out
          obtain ⟨b, o, rfl, -, hc0⟩ := hcx k x hx
          injection ev with ev1 ev2 ev3
          subst ev1
          have HST := hide (look_step hx s)
          have HX := hide hx
          clear hcx ev2 ev3 hx
          obtain ⟨sk, hsk⟩ : ∃ q, (l.take k).foldl lookS s = q := ⟨_, rfl⟩
          rw [hsk] at HW HST
          clear hsk
          obtain ⟨sr, sw, fg, bo, un, iv⟩ := sk
          have HLK := hide (fun (w : World) => rlook_any ⟨sr, sw, fg, bo, un, iv⟩ x w)
          obtain ⟨s2, hs2⟩ : ∃ q, lookS ⟨sr, sw, fg, bo, un, iv⟩ x = q := ⟨_, rfl⟩
          have HR2 := hide (lookS_rw ⟨sr, sw, fg, bo, un, iv⟩ x)
          rw [hs2] at HLK HST HR2
          clear hs2
          obtain ⟨sr2, sw2, fg2, bo2, un2, iv2⟩ := s2
          obtain ⟨rfl, rfl⟩ := HR2.out
          clear HR2
          dsimp only [styV] at HLK
          obtain ⟨-, -, -, -, -, -, c6, c7, c8, c9, -⟩ := HW.out.reads
          dsimp only at c6 c7 c8 c9
          have bf := fun i => HW.out.b.frozen i
          go_wp2_with fail
          refine wp_region_held_drew (S := (fun V => V.cell? ⟨b, o + k, none⟩ = some (.int .i64 x))) (by kernel_rfl) ?_ (fun hHeld => ?_)
          · exact hc0
          refine wpAnyH_at (i := 0) (v := ?va0) (d := 259) rfl rfl (by kernel_rfl) (by kernel_rfl) (by kernel_rfl) (fun _ _ _ h => h) (Or.inl ⟨by rfl, fun w' hSw => ?hya0⟩) (by assumption) ?resta0
          case hya0 =>
            (try dsimp only at hSw)
            go_simp
            (try with_reducible rfl)
          (try simp only [Act.put, List.setIfInBounds_toArray, List.set_cons_zero, List.set_cons_succ])
          refine wpAnyH_at (i := 1) (v := ?va1) (d := 260) rfl rfl (by kernel_rfl) (by kernel_rfl) (by kernel_rfl) (fun _ _ _ h => h) (Or.inl ⟨by rfl, fun w' hSw => ?hya1⟩) (by assumption) ?resta1
          case hya1 =>
            (try dsimp only at hSw)
            go_simp
            (try with_reducible rfl)
          (try simp only [Act.put, List.setIfInBounds_toArray, List.set_cons_zero, List.set_cons_succ])
          refine wpAnyH_at (i := 2) (v := ?va2) (d := 261) rfl rfl (by kernel_rfl) (by kernel_rfl) (by kernel_rfl) (fun _ _ _ h => h) (Or.inl ⟨by rfl, fun w' hSw => ?hya2⟩) (by assumption) ?resta2
          case hya2 =>
            (try dsimp only at hSw)
            go_simp
            (try with_reducible rfl)
          (try simp only [Act.put, List.setIfInBounds_toArray, List.set_cons_zero, List.set_cons_succ])
          refine wpAnyH_at (i := 3) (v := ?va3) (d := 262) rfl rfl (by kernel_rfl) (by kernel_rfl) (by kernel_rfl) (fun _ _ _ h => h) (Or.inl ⟨by rfl, fun w' hSw => ?hya3⟩) (by assumption) ?resta3
          case hya3 =>
            (try dsimp only at hSw)
            go_simp
            (try with_reducible rfl)
          (try simp only [Act.put, List.setIfInBounds_toArray, List.set_cons_zero, List.set_cons_succ])
          refine wpAnyH_at (i := 5) (v := ?va5) (d := 264) rfl rfl (by kernel_rfl) (by kernel_rfl) (by kernel_rfl) (fun _ _ _ h => h) (Or.inl ⟨by rfl, fun w' hSw => ?hya5⟩) (by assumption) ?resta5
          case hya5 =>
            (try dsimp only at hSw)
            go_simp
            (try with_reducible rfl)
          (try simp only [Act.put, List.setIfInBounds_toArray, List.set_cons_zero, List.set_cons_succ])
          refine wpAnyH_at (i := 6) (v := ?va6) (d := 265) rfl rfl (by kernel_rfl) (by kernel_rfl) (by kernel_rfl) (fun _ _ _ h => h) (Or.inl ⟨by rfl, fun w' hSw => ?hya6⟩) (by assumption) ?resta6
          case hya6 =>
            (try dsimp only at hSw)
            go_simp
            (try with_reducible rfl)
          (try simp only [Act.put, List.setIfInBounds_toArray, List.set_cons_zero, List.set_cons_succ])
          refine wpAnyH_at (i := 7) (v := ?va7) (d := 266) rfl rfl (by kernel_rfl) (by kernel_rfl) (by kernel_rfl) (fun _ _ _ h => h) (Or.inl ⟨by rfl, fun w' hSw => ?hya7⟩) (by assumption) ?resta7
          case hya7 =>
            (try dsimp only at hSw)
            go_simp
            (try with_reducible rfl)
          (try simp only [Act.put, List.setIfInBounds_toArray, List.set_cons_zero, List.set_cons_succ])
          refine wpAnyH_at (i := 8) (v := ?va8) (d := 267) rfl rfl (by kernel_rfl) (by kernel_rfl) (by kernel_rfl) (fun _ _ _ h => h) (Or.inl ⟨by rfl, fun w' hSw => ?hya8⟩) (by assumption) ?resta8
          case hya8 =>
            (try dsimp only at hSw)
            go_simp
            (try with_reducible rfl)
          (try simp only [Act.put, List.setIfInBounds_toArray, List.set_cons_zero, List.set_cons_succ])
          refine wpAnyH_ready (rs := [4]) (by kernel_rfl) (by simp) ?_
          refine AllReadyH.cons rfl (fun K' hK' => ?_) AllReadyH.nil
          go_simp
          refine hK'.out _ _ ?_ (fun hHeld => ?_)
          · exact hc0
          clear hK' K'
          (try simp only [Act.put, List.getElem_toArray, List.getElem_cons_succ, List.getElem_cons_zero, List.setIfInBounds_toArray, List.set_cons_zero, List.set_cons_succ])
          refine wpAnyH_ready (rs := [9]) (by kernel_rfl) (by simp) ?_
          refine AllReadyH.cons rfl (fun K' hK' => ?_) AllReadyH.nil
          go_simp
          refine (HLK.out _).mono ?_; rintro e w8 ⟨rfl, hb8⟩
          have H8 := hide ((HW.out.low (Below.refl _ _).drew).low hb8)
          have K8 := hide ((HK.out.trans K2.drew).trans (K2.of hb8))
          have x8 := (HNK.out _ K8.out).cellAt HX.out
          clear hb8
          go_wp2_with fail
          refine hK'.out _ _ ?_ (fun hHeld => ?_)
          · exact x8
          clear hK' K'
          (try simp only [Act.put, List.getElem_toArray, List.getElem_cons_succ, List.getElem_cons_zero, List.setIfInBounds_toArray, List.set_cons_zero, List.set_cons_succ])
          refine wpAnyH_at (i := 10) (v := ?va10) (d := 269) rfl rfl (by kernel_rfl) (by kernel_rfl) (by kernel_rfl) (fun _ _ _ h => h) (Or.inl ⟨by rfl, fun w' hSw => ?hya10⟩) (by assumption) ?resta10
          case hya10 =>
            (try dsimp only at hSw)
            go_simp
            (try with_reducible rfl)
          (try simp only [Act.put, List.setIfInBounds_toArray, List.set_cons_zero, List.set_cons_succ])
          refine wpAnyH_at (i := 11) (v := ?va11) (d := 270) rfl rfl (by kernel_rfl) (by kernel_rfl) (by kernel_rfl) (fun _ _ _ h => h) (Or.inl ⟨by rfl, fun w' hSw => ?hya11⟩) (by assumption) ?resta11
          case hya11 =>
            (try dsimp only at hSw)
            go_simp
            (try with_reducible rfl)
          (try simp only [Act.put, List.setIfInBounds_toArray, List.set_cons_zero, List.set_cons_succ])
          clear c6 c7 c8 c9 bf
          obtain ⟨-, -, -, -, -, -, c6, c7, c8, c9, -⟩ := H8.out.reads
          dsimp only at c6 c7 c8 c9
          have bf := fun i => H8.out.b.frozen i
          have H9 := hide ((((H8.out.setZ ⟨R, C, cs, row, col, p, ⟨sr2, sw2, fg2, bo, un, iv⟩, false, bl⟩ 6 (.int .i64 fg2) rfl rfl).setZ ⟨R, C, cs, row, col, p, ⟨sr2, sw2, fg2, bo2, un, iv⟩, false, bl⟩ 7 (.bool bo2) rfl rfl).setZ ⟨R, C, cs, row, col, p, ⟨sr2, sw2, fg2, bo2, un2, iv⟩, false, bl⟩ 8 (.bool un2) rfl rfl).setZ ⟨R, C, cs, row, col, p, ⟨sr2, sw2, fg2, bo2, un2, iv2⟩, false, bl⟩ 9 (.bool iv2) rfl rfl)
          have K9 := hide ((((K8.out.trans (K2.set _ _ 6 _ (.int .i64 fg2))).trans (K2.set _ _ 7 _ (.bool bo2))).trans (K2.set _ _ 8 _ (.bool un2))).trans (K2.set _ _ 9 _ (.bool iv2)))
          have x9 := (HNK.out _ K9.out).cellAt HX.out
          refine wpAnyH_ready (rs := [12]) (by kernel_rfl) (by simp) ?_
          refine AllReadyH.cons rfl (fun K' hK' => ?_) AllReadyH.nil
          go_simp
          refine hK'.out _ _ ?_ (fun hHeld => ?_)
          · exact x9
          clear hK' K'
          (try simp only [Act.put, List.getElem_toArray, List.getElem_cons_succ, List.getElem_cons_zero, List.setIfInBounds_toArray, List.set_cons_zero, List.set_cons_succ])
          refine wpAnyH_done (by kernel_rfl) ?_ _
          go_wp2_with fail
          exact ⟨⟨k + 1, by go_num, by omega, hide (by rw [HST.out]; exact H9.out), hide K9.out⟩, by simp [intOf]; omega⟩
        · obtain rfl : k = len := by omega
          have HF := hide (show (l.take k).foldl lookS s = l.foldl lookS s by rw [← HLEN.out, List.take_length])
          rw [HF.out] at HW
          go_wp2
          go_end0
          rw [HSQ.out]
          exact Mr.mk HW.out HK.out (.inl rfl)
  · as_aux_lemma =>
      go_enter Tryd.func35, Tryd.ntmps35
      go_wp2_with fail
      refine (HN0.out _ (Below.refl _ _)).mono ?_; rintro e w1 ⟨rfl, rfl⟩
      go_wp2_with fail
      (try rw [hm])
      go_region
      go_wp2_with fail
      have HNK := hide (fun V (hk : K2 z g W V) => HNU.out.k2R H.out hk)
      obtain ⟨U, hU, HU, KU⟩ := named (R := fun V => TrB w0 V z g cap ⟨R, C, cs, row, col, p, s, true, bl⟩ ∧ K2 z g W V) ⟨(H.out.setZ ⟨R, C, cs, row, col, p, s, true, bl⟩ 10 (.bool true) rfl rfl).low (Below.refl _ _).drew, (K2.set _ _ _ _ _).trans K2.drew⟩
      rw [hU]
      have HU := hide HU
      have KU := hide KU
      clear hU H c0 c1 c2 c3 c4 c5 c6 c7 c8 c9 c10 c11 bf
      (try go_wp2_with fail)
      go_loopw [10] (fun jv wr => ∃ k : Nat, jv = .int .i64 (k : Int) ∧ k ≤ len ∧ Hid (TrB w0 wr z g cap ⟨R, C, cs, row, col, p, (l.take k).foldl lookS s, true, bl⟩) ∧ Hid (K2 z g W wr)) (fun jv _ => len - (intOf jv).toNat)
      case atStart => exact ⟨0, rfl, by omega, HU, KU⟩
      case round =>
        obtain ⟨k, rfl, hk, HW, HK⟩ := hrel
        by_cases hlt : k < len
        · as_aux_lemma =>
          have hkm : (k : Int) < (len : Int) := by omega
          obtain ⟨x, hx⟩ : ∃ x, l[k]? = some x := ⟨_, List.getElem?_eq_getElem (by rw [HLEN.out]; exact hlt)⟩
          obtain ⟨A', c', ev, hcx⟩ := HNK.out _ HK.out
          obtain ⟨b, o, rfl, -, hc0⟩ := hcx k x hx
          injection ev with ev1 ev2 ev3
          subst ev1
          have HST := hide (look_step hx s)
          have HX := hide hx
          clear hcx ev2 ev3 hx
          obtain ⟨sk, hsk⟩ : ∃ q, (l.take k).foldl lookS s = q := ⟨_, rfl⟩
          rw [hsk] at HW HST
          clear hsk
          obtain ⟨sr, sw, fg, bo, un, iv⟩ := sk
          have HLK := hide (fun (w : World) => rlook_any ⟨sr, sw, fg, bo, un, iv⟩ x w)
          obtain ⟨s2, hs2⟩ : ∃ q, lookS ⟨sr, sw, fg, bo, un, iv⟩ x = q := ⟨_, rfl⟩
          have HR2 := hide (lookS_rw ⟨sr, sw, fg, bo, un, iv⟩ x)
          rw [hs2] at HLK HST HR2
          clear hs2
          obtain ⟨sr2, sw2, fg2, bo2, un2, iv2⟩ := s2
          obtain ⟨rfl, rfl⟩ := HR2.out
          clear HR2
          dsimp only [styV] at HLK
          obtain ⟨-, -, -, -, -, -, c6, c7, c8, c9, -⟩ := HW.out.reads
          dsimp only at c6 c7 c8 c9
          have bf := fun i => HW.out.b.frozen i
          go_wp2_with fail
          refine wp_region_held_drew (S := (fun V => V.cell? ⟨b, o + k, none⟩ = some (.int .i64 x))) (by kernel_rfl) ?_ (fun hHeld => ?_)
          · exact hc0
          refine wpAnyH_at (i := 0) (v := ?vb0) (d := 259) rfl rfl (by kernel_rfl) (by kernel_rfl) (by kernel_rfl) (fun _ _ _ h => h) (Or.inl ⟨by rfl, fun w' hSw => ?hyb0⟩) (by assumption) ?restb0
          case hyb0 =>
            (try dsimp only at hSw)
            go_simp
            (try with_reducible rfl)
          (try simp only [Act.put, List.setIfInBounds_toArray, List.set_cons_zero, List.set_cons_succ])
          refine wpAnyH_at (i := 1) (v := ?vb1) (d := 260) rfl rfl (by kernel_rfl) (by kernel_rfl) (by kernel_rfl) (fun _ _ _ h => h) (Or.inl ⟨by rfl, fun w' hSw => ?hyb1⟩) (by assumption) ?restb1
          case hyb1 =>
            (try dsimp only at hSw)
            go_simp
            (try with_reducible rfl)
          (try simp only [Act.put, List.setIfInBounds_toArray, List.set_cons_zero, List.set_cons_succ])
          refine wpAnyH_at (i := 2) (v := ?vb2) (d := 261) rfl rfl (by kernel_rfl) (by kernel_rfl) (by kernel_rfl) (fun _ _ _ h => h) (Or.inl ⟨by rfl, fun w' hSw => ?hyb2⟩) (by assumption) ?restb2
          case hyb2 =>
            (try dsimp only at hSw)
            go_simp
            (try with_reducible rfl)
          (try simp only [Act.put, List.setIfInBounds_toArray, List.set_cons_zero, List.set_cons_succ])
          refine wpAnyH_at (i := 3) (v := ?vb3) (d := 262) rfl rfl (by kernel_rfl) (by kernel_rfl) (by kernel_rfl) (fun _ _ _ h => h) (Or.inl ⟨by rfl, fun w' hSw => ?hyb3⟩) (by assumption) ?restb3
          case hyb3 =>
            (try dsimp only at hSw)
            go_simp
            (try with_reducible rfl)
          (try simp only [Act.put, List.setIfInBounds_toArray, List.set_cons_zero, List.set_cons_succ])
          refine wpAnyH_at (i := 5) (v := ?vb5) (d := 264) rfl rfl (by kernel_rfl) (by kernel_rfl) (by kernel_rfl) (fun _ _ _ h => h) (Or.inl ⟨by rfl, fun w' hSw => ?hyb5⟩) (by assumption) ?restb5
          case hyb5 =>
            (try dsimp only at hSw)
            go_simp
            (try with_reducible rfl)
          (try simp only [Act.put, List.setIfInBounds_toArray, List.set_cons_zero, List.set_cons_succ])
          refine wpAnyH_at (i := 6) (v := ?vb6) (d := 265) rfl rfl (by kernel_rfl) (by kernel_rfl) (by kernel_rfl) (fun _ _ _ h => h) (Or.inl ⟨by rfl, fun w' hSw => ?hyb6⟩) (by assumption) ?restb6
          case hyb6 =>
            (try dsimp only at hSw)
            go_simp
            (try with_reducible rfl)
          (try simp only [Act.put, List.setIfInBounds_toArray, List.set_cons_zero, List.set_cons_succ])
          refine wpAnyH_at (i := 7) (v := ?vb7) (d := 266) rfl rfl (by kernel_rfl) (by kernel_rfl) (by kernel_rfl) (fun _ _ _ h => h) (Or.inl ⟨by rfl, fun w' hSw => ?hyb7⟩) (by assumption) ?restb7
          case hyb7 =>
            (try dsimp only at hSw)
            go_simp
            (try with_reducible rfl)
          (try simp only [Act.put, List.setIfInBounds_toArray, List.set_cons_zero, List.set_cons_succ])
          refine wpAnyH_at (i := 8) (v := ?vb8) (d := 267) rfl rfl (by kernel_rfl) (by kernel_rfl) (by kernel_rfl) (fun _ _ _ h => h) (Or.inl ⟨by rfl, fun w' hSw => ?hyb8⟩) (by assumption) ?restb8
          case hyb8 =>
            (try dsimp only at hSw)
            go_simp
            (try with_reducible rfl)
          (try simp only [Act.put, List.setIfInBounds_toArray, List.set_cons_zero, List.set_cons_succ])
          refine wpAnyH_ready (rs := [4]) (by kernel_rfl) (by simp) ?_
          refine AllReadyH.cons rfl (fun K' hK' => ?_) AllReadyH.nil
          go_simp
          refine hK'.out _ _ ?_ (fun hHeld => ?_)
          · exact hc0
          clear hK' K'
          (try simp only [Act.put, List.getElem_toArray, List.getElem_cons_succ, List.getElem_cons_zero, List.setIfInBounds_toArray, List.set_cons_zero, List.set_cons_succ])
          refine wpAnyH_ready (rs := [9]) (by kernel_rfl) (by simp) ?_
          refine AllReadyH.cons rfl (fun K' hK' => ?_) AllReadyH.nil
          go_simp
          refine (HLK.out _).mono ?_; rintro e w8 ⟨rfl, hb8⟩
          have H8 := hide ((HW.out.low (Below.refl _ _).drew).low hb8)
          have K8 := hide ((HK.out.trans K2.drew).trans (K2.of hb8))
          have x8 := (HNK.out _ K8.out).cellAt HX.out
          clear hb8
          go_wp2_with fail
          refine hK'.out _ _ ?_ (fun hHeld => ?_)
          · exact x8
          clear hK' K'
          (try simp only [Act.put, List.getElem_toArray, List.getElem_cons_succ, List.getElem_cons_zero, List.setIfInBounds_toArray, List.set_cons_zero, List.set_cons_succ])
          refine wpAnyH_at (i := 10) (v := ?vb10) (d := 269) rfl rfl (by kernel_rfl) (by kernel_rfl) (by kernel_rfl) (fun _ _ _ h => h) (Or.inl ⟨by rfl, fun w' hSw => ?hyb10⟩) (by assumption) ?restb10
          case hyb10 =>
            (try dsimp only at hSw)
            go_simp
            (try with_reducible rfl)
          (try simp only [Act.put, List.setIfInBounds_toArray, List.set_cons_zero, List.set_cons_succ])
          refine wpAnyH_at (i := 11) (v := ?vb11) (d := 270) rfl rfl (by kernel_rfl) (by kernel_rfl) (by kernel_rfl) (fun _ _ _ h => h) (Or.inl ⟨by rfl, fun w' hSw => ?hyb11⟩) (by assumption) ?restb11
          case hyb11 =>
            (try dsimp only at hSw)
            go_simp
            (try with_reducible rfl)
          (try simp only [Act.put, List.setIfInBounds_toArray, List.set_cons_zero, List.set_cons_succ])
          clear c6 c7 c8 c9 bf
          obtain ⟨-, -, -, -, -, -, c6, c7, c8, c9, -⟩ := H8.out.reads
          dsimp only at c6 c7 c8 c9
          have bf := fun i => H8.out.b.frozen i
          have H9 := hide ((((H8.out.setZ ⟨R, C, cs, row, col, p, ⟨sr2, sw2, fg2, bo, un, iv⟩, true, bl⟩ 6 (.int .i64 fg2) rfl rfl).setZ ⟨R, C, cs, row, col, p, ⟨sr2, sw2, fg2, bo2, un, iv⟩, true, bl⟩ 7 (.bool bo2) rfl rfl).setZ ⟨R, C, cs, row, col, p, ⟨sr2, sw2, fg2, bo2, un2, iv⟩, true, bl⟩ 8 (.bool un2) rfl rfl).setZ ⟨R, C, cs, row, col, p, ⟨sr2, sw2, fg2, bo2, un2, iv2⟩, true, bl⟩ 9 (.bool iv2) rfl rfl)
          have K9 := hide ((((K8.out.trans (K2.set _ _ 6 _ (.int .i64 fg2))).trans (K2.set _ _ 7 _ (.bool bo2))).trans (K2.set _ _ 8 _ (.bool un2))).trans (K2.set _ _ 9 _ (.bool iv2)))
          have x9 := (HNK.out _ K9.out).cellAt HX.out
          refine wpAnyH_ready (rs := [12]) (by kernel_rfl) (by simp) ?_
          refine AllReadyH.cons rfl (fun K' hK' => ?_) AllReadyH.nil
          go_simp
          refine hK'.out _ _ ?_ (fun hHeld => ?_)
          · exact x9
          clear hK' K'
          (try simp only [Act.put, List.getElem_toArray, List.getElem_cons_succ, List.getElem_cons_zero, List.setIfInBounds_toArray, List.set_cons_zero, List.set_cons_succ])
          refine wpAnyH_done (by kernel_rfl) ?_ _
          go_wp2_with fail
          exact ⟨⟨k + 1, by go_num, by omega, hide (by rw [HST.out]; exact H9.out), hide K9.out⟩, by simp [intOf]; omega⟩
        · obtain rfl : k = len := by omega
          have HF := hide (show (l.take k).foldl lookS s = l.foldl lookS s by rw [← HLEN.out, List.take_length])
          rw [HF.out] at HW
          go_wp2
          go_end0
          rw [HSQ.out]
          exact Mr.mk HW.out HK.out (.inl rfl)
end Go.Proofs.YtmemdhmjhckmaaaDoor
namespace Go.Proofs.YtmemdhmjhckmaaaDoor
open Go.RowKit
set_option maxRecDepth 100000

theorem rtseq_any {w0 W : World} {z g cap : Nat} (t : Tm) (h : TrB w0 W z g cap t) (hI : Inv t) (fin : Int) (pv : Value) (l : List Int) (hv : NumsV W pv l) (hl : l.length ≤ 100000) (h9 : ∀ x ∈ l, 0 ≤ x ∧ x ≤ 9999) :
    Calls Tryd.prog 35 #[.pointer (some ⟨z, 0, none⟩), pv, .int .u8 fin] W (Mr w0 W z g (seqM t l fin)) := by
  by_cases h65 : fin = 65
  · exact rtseq_f65 t h hI fin pv l hv hl h9 h65
  by_cases h66 : fin = 66
  · exact rtseq_f66 t h hI fin pv l hv hl h9 h66
  by_cases h68 : fin = 68
  · exact rtseq_f68 t h hI fin pv l hv hl h9 h68
  by_cases h67 : fin = 67
  · exact rtseq_f67 t h hI fin pv l hv hl h9 h67
  by_cases h72 : fin = 72
  · exact rtseq_f72 t h hI fin pv l hv hl h9 h72
  by_cases h75 : fin = 75
  · by_cases k0 : l.getD 0 0 = 0
    · exact rtseq_f75_0 t h hI fin pv l hv hl h9 h75 k0
    by_cases k1 : l.getD 0 0 = 1
    · exact rtseq_f75_1 t h hI fin pv l hv hl h9 h75 k1
    by_cases k2 : l.getD 0 0 = 2
    · exact rtseq_f75_2 t h hI fin pv l hv hl h9 h75 k2
    exact rtseq_f75_n t h hI fin pv l hv hl h9 h75 k0 k1 k2
  by_cases h74 : fin = 74
  · by_cases k0 : l.getD 0 0 = 0
    · exact rtseq_f74_0 t h hI fin pv l hv hl h9 h74 k0
    by_cases k1 : l.getD 0 0 = 1
    · exact rtseq_f74_1 t h hI fin pv l hv hl h9 h74 k1
    by_cases k2 : l.getD 0 0 = 2
    · exact rtseq_f74_2 t h hI fin pv l hv hl h9 h74 k2
    exact rtseq_f74_n t h hI fin pv l hv hl h9 h74 k0 k1 k2
  by_cases h109 : fin = 109
  · by_cases k0 : l.length = 0
    · exact rtseq_f109_0 t h hI fin pv l hv hl h9 h109 k0
    exact rtseq_f109_1 t h hI fin pv l hv hl h9 h109 k0
  exact rtseq_other t h hI fin pv l hv hl h9 (by
    intro q hq
    simp at hq
    rcases hq with rfl | rfl | rfl | rfl | rfl | rfl | rfl | rfl <;> assumption)
end Go.Proofs.YtmemdhmjhckmaaaDoor
namespace Go.Proofs.YtmemdhmjhckmaaaDoor
open Go.RowKit

set_option maxHeartbeats 400000 in
theorem rshown_any (r : Int) (w : World) :
    Calls Tryd.prog 33 #[.int .i32 r] w fun e w' => e = .returned (.int .i32 (shown r)) ∧ Below w.heap.size w w' := by
  have hb := cells_bd r
  by_cases h : cells r = 0
  · have H := hide h
    clear h hb
    go_enter Tryd.func33, Tryd.ntmps33
    go_wp2_with (go_at_call 62; refine (rof_any r _).mono ?_; rw [H.out]; rintro e w1 ⟨rfl, hb1⟩)
    go_ret
    exact ⟨ret_shown (by rw [shown, if_pos H.out]), hb1⟩
  · have H := hide h
    generalize hc : cells r = c at *
    have HC := hide hc
    have hpos : 1 ≤ c := by omega
    clear h hb hc
    go_enter Tryd.func33, Tryd.ntmps33
    go_wp2_with (go_at_call 62; refine (rof_any r _).mono ?_; rw [HC.out]; rintro e w1 ⟨rfl, hb1⟩)
    go_ret
    exact ⟨ret_shown (by rw [shown, HC.out, if_neg H.out]), hb1⟩

/-- How many blanks a tab is at a column. -/
def tabs (c : Int) : Int := if c < 0 then 8 else 8 - c % 8
end Go.Proofs.YtmemdhmjhckmaaaDoor
