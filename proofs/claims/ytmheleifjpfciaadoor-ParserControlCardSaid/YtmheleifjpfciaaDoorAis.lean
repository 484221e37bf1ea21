/- Contract of limnerlaw07.is, where it answers true. -/
import Derived.Test.YtmheleifjpfciaaDoorAtold
namespace Go.Proofs.YtmheleifjpfciaaDoor
open Go.RowKit

/-- What a slice holds at a place. -/
def AcAt (A : Option Addr) (j : Nat) (a : Ac) (W : World) : Prop :=
  ∃ b o pv, A = some ⟨b, o, none⟩ ∧ NumsV W pv a.ps ∧ W.cell? ⟨b, o + j * 4, none⟩ = some (.int .i64 a.kind) ∧ W.cell? ⟨b, o + j * 4 + 1, none⟩ = some (.int .i32 a.r) ∧ W.cell? ⟨b, o + j * 4 + 2, none⟩ = some pv ∧ W.cell? ⟨b, o + j * 4 + 3, none⟩ = some (.int .u8 a.fin)
theorem kc {W W' : World} {b o : Nat} {u : Value} (hb : Below W.heap.size W W') (h : W.cell? ⟨b, o, none⟩ = some u) : W'.cell? ⟨b, o, none⟩ = some u := (hb.cell (p := ⟨b, o, none⟩) (World.block_lt_of_cell? _ _ h)).trans h
set_option maxRecDepth 100000 in
set_option maxHeartbeats 4000000 in
theorem is_any (s : ByteArray) (A : Option Addr) (c : Nat) (L : List Ac) (w : World) (hT : UTabs w) (hs : s.size ≤ 90000) (hL : ActsV w (.slice A L.length c) L) (ho : outA s s.size = L) (hn : ∀ a ∈ L, a.ps.length ≤ 1048576) :
    Calls Tryd.prog 14 #[.string s, .slice A L.length c] w fun e w' => e = .returned (.bool true) ∧ Below w.heap.size w w' := by
  have HT := hide hT
  have HL := hide hL
  have HN := hide hn
  have hl9 : L.length ≤ 200000 := by rw [← ho]; have := outA_len s s.size; omega
  have HO := hide ho
  have HC := hide (fun W hW => told_any s W hW hs)
  rw [ho] at HC
  clear hT hL ho hn
  obtain ⟨n, hn⟩ : ∃ n, L.length = n := ⟨_, rfl⟩
  rw [hn] at hl9 HL ⊢
  have HLN := hide hn
  clear hn
  go_enter Tryd.func14, Tryd.ntmps14
  go_wp2_with (first | (go_at_call 12; refine (HC.out _ HT.out).mono ?_; rintro e w1 ⟨v, rfl, hacts, hb1⟩; have hacts2 := hacts; obtain ⟨A1, c1, M, rfl, -⟩ := hacts; have HA1 := hide hacts2; have HB1 := hide hb1; clear hb1 hacts2; rw [HLN.out] at HA1; rw [HLN.out]) | fail)
  go_loopw [6] (fun i wr => ∃ k : Nat, k ≤ n ∧ i = .int .i64 k ∧ Hid (Below w.heap.size w wr) ∧ Hid (Below w1.heap.size w1 wr)) (fun i _ => n - (intOf i).toNat)
  case atStart => exact ⟨0, Nat.zero_le _, rfl, HB1, hide (Below.refl _ _)⟩
  case round =>
    obtain ⟨k, hk, rfl, H3, H4⟩ := hrel
    by_cases hlt : k < n
    · have hkL : k < L.length := by rw [HLN.out]; exact hlt
      have hLa := HL.out.below H3.out
      have hLb := HA1.out.below H4.out
      obtain ⟨b, o, pv, rfl, hnum, ca0, ca1, ca2, ca3⟩ := acts_at hLa (List.getElem?_eq_getElem hkL)
      obtain ⟨b', o', pv', rfl, hnum', cb0, cb1, cb2, cb3⟩ := acts_at hLb (List.getElem?_eq_getElem hkL)
      have hps := HN.out L[k] (List.getElem_mem hkL)
      generalize L[k] = a at *
      have HLK := hide (fun W hW => like_any a.kind a.r a.fin a.ps pv' pv W hps (hnum'.below hW) (hnum.below hW))
      clear hnum hnum' hps hLa hLb hkL
      generalize a.kind = ak at *
      generalize a.r = ar at *
      generalize a.fin = af at *
      have h0k : (0 : Int) ≤ (k : Int) := by omega
      have hks : (k : Int) < (n : Int) := by omega
      go_wp2
      go_region_held3 (fun W => W.cell? ⟨b, o + k * 4, none⟩ = some (.int .i64 ak) ∧ W.cell? ⟨b, o + k * 4 + 1, none⟩ = some (.int .i32 ar) ∧ W.cell? ⟨b, o + k * 4 + 2, none⟩ = some pv ∧ W.cell? ⟨b, o + k * 4 + 3, none⟩ = some (.int .u8 af) ∧ W.cell? ⟨b', o' + k * 4, none⟩ = some (.int .i64 ak) ∧ W.cell? ⟨b', o' + k * 4 + 1, none⟩ = some (.int .i32 ar) ∧ W.cell? ⟨b', o' + k * 4 + 2, none⟩ = some pv' ∧ W.cell? ⟨b', o' + k * 4 + 3, none⟩ = some (.int .u8 af))
        (first | exact ⟨ca0, ca1, ca2, ca3, cb0, cb1, cb2, cb3⟩ | exact ⟨kc hb2 ca0, kc hb2 ca1, kc hb2 ca2, kc hb2 ca3, kc hb2 cb0, kc hb2 cb1, kc hb2 cb2, kc hb2 cb3⟩)
        (first | (go_at_call 11; refine (HLK.out _ ((Below.refl _ _).drew)).mono ?_; rintro e w2 ⟨rfl, hb2⟩) | fail)
      have H5 := hide (H3.out.drew.trans (hb2.mono H3.out.size))
      have H6 := hide (H4.out.drew.trans (hb2.mono H4.out.size))
      clear hb2
      go_wp2
      go_roundw
      case rel => exact ⟨k + 1, by omega, by go_num, H5, H6⟩
      case measure => simp [intOf]; omega
    · go_wp2
      go_ret
      exact ⟨rfl, H3.out⟩
end Go.Proofs.YtmheleifjpfciaaDoor
