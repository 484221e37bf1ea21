/- A decoder and the document's, side by side. Acts: where they lie; Great. -/
import Derived.Test.YtiilgeinkocanaaDoorKpressed
import Derived.Test.YtiilgeinkocanaaDoorKrfeed
namespace Go.Proofs.YtiilgeinkocanaaDoor
open Go.RowKit

theorem RAt.keep {W W' : World} {R : Nat} {G : List Nat} {st : KS} (h : RAt W R G st) (hk : ∀ k ∈ G, W'.heap[k]? = W.heap[k]?) : RAt W' R G st := by
  rcases h with ⟨h1, rfl, h2⟩ | ⟨h1, v, hG, h2, h4⟩
  · exact .inl ⟨h1, rfl, (hk R (by simp)).trans h2⟩
  · have hR : R ∈ G := by rcases hG with ⟨rfl, -⟩ | ⟨g, n, c, rfl, -⟩ <;> simp
    refine .inr ⟨h1, v, hG, (hk R hR).trans h2, h4.1, ?_⟩
    rcases h4.2 with h0 | ⟨g, cap, cur, rfl, hg, hh, r⟩
    · exact .inl h0
    · have hgG : g ∈ G := by
        rcases hG with ⟨-, e, -⟩ | ⟨g', n, c, rfl, e⟩
        · cases e
        · injection e with e; injection e with e; injection e with e; simp [e]
      exact .inr ⟨g, cap, cur, rfl, hg, (hk g hgG).trans hh, r⟩
theorem RAt.lt {W : World} {R : Nat} {G : List Nat} {st : KS} (h : RAt W R G st) : ∀ k ∈ G, k < W.heap.size := by
  intro k hk
  rcases h with ⟨h1, rfl, h2⟩ | ⟨h1, v, hG, h2, h4⟩
  · rw [List.mem_singleton.1 hk]; exact h2.lt
  · rcases hG with ⟨rfl, -⟩ | ⟨g, n, c, rfl, rfl⟩
    · simp at hk; subst hk; exact h2.lt
    · simp at hk
      rcases hk with rfl | rfl
      · exact h2.lt
      · exact (h4.lt k rfl).2
theorem RAt.inG {W : World} {R : Nat} {G : List Nat} {st : KS} (h : RAt W R G st) : R ∈ G := by
  rcases h with ⟨-, rfl, -⟩ | ⟨-, v, hG, -⟩
  · simp
  · rcases hG with ⟨rfl, -⟩ | ⟨g, n, c, rfl, -⟩ <;> simp
/-- What the reference's cells say of what waits. -/
theorem RAt.reads {W : World} {R : Nat} {G : List Nat} {st : KS} (h : RAt W R G st) : W.cell? ⟨R, 1, none⟩ = some (.bool st.1) ∧ ∃ s, W.cell? ⟨R, 0, none⟩ = some (.string s) ∧ (st.1 = false → s = st.2) := by
  rcases h with ⟨h1, rfl, h2⟩ | ⟨h1, v, hG, h2, h4⟩
  · exact ⟨by rw [h1]; exact h2.cell (i := 1) rfl, _, h2.cell (i := 0) rfl, fun _ => rfl⟩
  · exact ⟨by rw [h1]; exact h2.cell (i := 1) rfl, _, h2.cell (i := 0) rfl, fun e => by rw [h1] at e; cases e⟩
structure PS (w : World) (D R : Nat) (st : KS) (W : World) : Prop where
  both : ∃ F G, DecAt W D F st ∧ RAt W R G st ∧ AllGe w.heap.size F ∧ AllGe w.heap.size G ∧ ∀ k ∈ F, k ∉ G
  low : Below w.heap.size w W
structure PM (w : World) (D R : Nat) (st st' : KS) (u : Value) (N : List Ky) (W : World) : Prop where
  both : ∃ F G B, DecAt W D F st' ∧ RAt W R G st ∧ AllGe w.heap.size F ∧ AllGe w.heap.size G ∧ (∀ k ∈ F, k ∉ G) ∧ OwnK W B u N ∧ ∀ k ∈ G, k < B
  nil : N = [] → u = .slice none 0 0
  low : Below w.heap.size w W
structure PE (w : World) (D R : Nat) (st : KS) (u u' : Value) (N : List Ky) (W : World) : Prop where
  ps : PS w D R st W
  one : KeysV W u N
  two : KeysV W u' N
theorem PS.below {w W W' : World} {D R : Nat} {st : KS} (h : PS w D R st W) (hb : Below W.heap.size W W') : PS w D R st W' := by
  obtain ⟨F, G, h1, h2, h3, h4, h5⟩ := h.both
  exact ⟨⟨F, G, h1.keep (fun k hk => hb.block k (h1.lt k hk)), h2.keep (fun k hk => hb.block k (h2.lt k hk)), h3, h4, h5⟩, h.low.trans (hb.mono h.low.size)⟩
theorem PS.mid {w W W1 : World} {D R : Nat} {st : KS} {F G : List Nat} {p : KS × List Ky} {e : Ending} (hl : Below w.heap.size w W) (h1 : DecAt W D F st) (h2 : RAt W R G st) (h3 : AllGe w.heap.size F) (h4 : AllGe w.heap.size G) (h5 : ∀ k ∈ F, k ∉ G) (hp : FPost D F p W e W1) : ∃ u, e = .returned u ∧ PM w D R st p.1 u p.2 W1 := by
  obtain ⟨u, rfl, ho, hn, ⟨F', d1, d2⟩, hx⟩ := hp
  refine ⟨u, rfl, ⟨F', G, W.heap.size, d1, h2.keep (fun k hk => hx.block k (h2.lt k hk) (fun hm => h5 k hm hk)), fun k hk => (d2 k hk).elim (h3 k) (fun h => Nat.le_trans hl.size h), h4, fun k hk hg => ?_, ho, fun k hk => h2.lt k hk⟩, hn, hl.trans (hx.below h3 hl.size)⟩
  rcases d2 k hk with h | h
  · exact h5 k h hg
  · have := h2.lt k hg; omega
theorem PM.fin {w W W1 : World} {D R : Nat} {st st' : KS} {u : Value} {N : List Ky} {F G : List Nat} {B : Nat} {p : KS × List Ky} {e : Ending} (hl : Below w.heap.size w W) (h1 : DecAt W D F st') (h2 : RAt W R G st) (h3 : AllGe w.heap.size F) (h4 : AllGe w.heap.size G) (h5 : ∀ k ∈ F, k ∉ G) (ho : OwnK W B u N) (hB : ∀ k ∈ G, k < B) (hn : N = [] → u = .slice none 0 0)
    (hp : RFPost R G p W e W1) (hst : p.1 = st') (hN : p.2 = N) : ∃ u', e = .returned u' ∧ PE w D R st' u u' N W1 := by
  obtain ⟨u', rfl, ho', hn', ⟨G', d1, d2⟩, hx⟩ := hp
  subst hst hN
  have hRG := h2.inG
  have hRF : R ∉ F := fun hm => h5 R hm hRG
  have hbl : Below w.heap.size w W1 := hl.trans (hx.below (fun k hk => by rw [List.mem_singleton.1 hk]; exact h4 R hRG) hl.size)
  refine ⟨u', rfl, ⟨⟨F, G', h1.keep (fun k hk => hx.block k (h1.lt k hk) (fun hm => hRF (by rw [← List.mem_singleton.1 hm]; exact hk))), d1, h3, fun k hk => (d2 k hk).elim (h4 k) (fun h => Nat.le_trans hl.size h), fun k hk hg => ?_⟩, hbl⟩, ?_, ho'.keys hn'⟩
  · rcases d2 k hg with h | h
    · exact h5 k hk h
    · have := h1.lt k hk; omega
  · refine OwnK.keys (B := B) (ho.stays hx (fun k hk hm => ?_)) hn
    have := (ho.lt k hk).1
    have := hB R hRG
    rw [List.mem_singleton.1 hm] at *
    omega
theorem PS.feed {w W : World} {D R : Nat} {st : KS} (h : PS w D R st W) (hU : UTabs w) (hT : WTabs w) (x : Int) (h0 : 0 ≤ x) (h1 : x ≤ 255) (hz : st.2.size ≤ 900000) :
    Calls Tryd.prog 15 #[.pointer (some ⟨D, 0, none⟩), .int .u8 x] W fun e W1 => ∃ u, e = .returned u ∧ PM w D R st (feedK st x).1 u (feedK st x).2 W1 := by
  obtain ⟨F, G, a1, a2, a3, a4, a5⟩ := h.both
  exact (feed_any D F st x W (hU.below h.low) (hT.below h.low) h0 h1 (a3.safe hU hT (Nat.le_refl _)) (by omega) a1).mono fun e W1 hp => PS.mid h.low a1 a2 a3 a4 a5 hp
theorem PM.feed {w W : World} {D R : Nat} {st : KS} {u : Value} (x : Int) (h : PM w D R st (feedK st x).1 u (feedK st x).2 W) (h0 : 0 ≤ x) (h1 : x ≤ 255) (hz : st.2.size ≤ 900000) :
    Calls Tryd.prog 16 #[.pointer (some ⟨R, 0, none⟩), .int .u8 x] W fun e W2 => ∃ u', e = .returned u' ∧ PE w D R (feedK st x).1 u u' (feedK st x).2 W2 := by
  obtain ⟨F, G, B, a1, a2, a3, a4, a5, a6, a7⟩ := h.both
  exact (rfeed_any R G st x W h0 h1 hz a2).mono fun e W2 hp => PM.fin h.low a1 a2 a3 a4 a5 a6 a7 h.nil hp rfl rfl
theorem PS.tick {w W : World} {D R : Nat} {st : KS} (h : PS w D R st W) :
    Calls Tryd.prog 18 #[.pointer (some ⟨D, 0, none⟩)] W fun e W1 => ∃ u, e = .returned u ∧ PM w D R st (tickK st).1 u (tickK st).2 W1 := by
  obtain ⟨F, G, a1, a2, a3, a4, a5⟩ := h.both
  exact (tick_any D F st W a1).mono fun e W1 hp => PS.mid h.low a1 a2 a3 a4 a5 hp
theorem PM.tick {w W : World} {D R : Nat} {st : KS} {u : Value} (h : PM w D R st (tickK st).1 u (tickK st).2 W) :
    Calls Tryd.prog 19 #[.pointer (some ⟨R, 0, none⟩)] W fun e W2 => ∃ u', e = .returned u' ∧ PE w D R (tickK st).1 u u' (tickK st).2 W2 := by
  obtain ⟨F, G, B, a1, a2, a3, a4, a5, a6, a7⟩ := h.both
  exact (rtick_any R G st W a2).mono fun e W2 hp => PM.fin h.low a1 a2 a3 a4 a5 a6 a7 h.nil hp rfl rfl
theorem PE.same {w W : World} {D R : Nat} {st : KS} {u u' : Value} {N : List Ky} (h : PE w D R st u u' N W) (hN : N.length ≤ 1000) :
    Calls Tryd.prog 14 #[u, u'] W fun e W2 => e = .returned (.bool true) ∧ PS w D R st W2 :=
  (same_any u u' N N W h.one h.two (by omega) (by omega)).mono fun e W2 hh => ⟨by rw [hh.1, decide_eq_true rfl], h.ps.below hh.2⟩
theorem PS.wait {w W : World} {D R : Nat} {st : KS} (h : PS w D R st W) : Calls Tryd.prog 17 #[.pointer (some ⟨D, 0, none⟩)] W fun e w' => e = .returned (.bool (waitsK st)) ∧ W = w' := by
  obtain ⟨F, G, a1, -⟩ := h.both
  exact waiting_any D F st W a1
theorem PS.reads {w W : World} {D R : Nat} {st : KS} (h : PS w D R st W) : W.cell? ⟨R, 1, none⟩ = some (.bool st.1) ∧ ∃ s, W.cell? ⟨R, 0, none⟩ = some (.string s) ∧ (st.1 = false → s = st.2) := by
  obtain ⟨F, G, -, a2, -⟩ := h.both
  exact a2.reads
theorem PS.start (w : World) : PS w w.heap.size (w.heap.size + 1) startK ((w.alloc (.cells #[.iface 9 (.string ⟨#[]⟩)] 46)).alloc (.cells #[.string ⟨#[]⟩, .bool false, .slice none 0 0] 36)) := by
  have hb : Below w.heap.size w ((w.alloc (.cells #[.iface 9 (.string ⟨#[]⟩)] 46)).alloc (.cells #[.string ⟨#[]⟩, .bool false, .slice none 0 0] 36)) := ((Below.refl _ _).alloc (Nat.le_refl _) _).alloc (by simp) _
  have hR := Blk.new (w.alloc (.cells #[.iface 9 (.string ⟨#[]⟩)] 46)) 36 (rB ⟨#[]⟩ false (.slice none 0 0))
  rw [World.size_alloc] at hR
  refine ⟨⟨[w.heap.size], [w.heap.size + 1], (DecAt.new w).keep (fun k hk => Below.heap_alloc _ _ _ (by rw [List.mem_singleton.1 hk]; simp)), .inl ⟨rfl, rfl, hR⟩, fun k hk => by rw [List.mem_singleton.1 hk]; exact Nat.le_refl _, fun k hk => by rw [List.mem_singleton.1 hk]; omega, fun k hk => by rw [List.mem_singleton.1 hk]; simp⟩, hb⟩
end Go.Proofs.YtiilgeinkocanaaDoor
namespace Go.Proofs.YtiilgeinkocanaaDoor
open Go.RowKit

/-- An act: bytes, and whether a pause is behind them. -/
abbrev Kact := ByteArray × Bool
def actCells (a : Kact) : List Value := [.string a.1, .bool a.2]
theorem act_at {w : World} {A : Option Addr} {L : List Kact} {j : Nat} {a : Kact} (h : RowOf w 2 actCells A L) (hj : L[j]? = some a) : ∃ b o, A = some ⟨b, o, none⟩ ∧ w.cell? ⟨b, o + j * 2, none⟩ = some (.string a.1) ∧ w.cell? ⟨b, o + j * 2 + 1, none⟩ = some (.bool a.2) := by
  obtain ⟨b, o, e, -, hc⟩ := h _ _ hj
  exact ⟨b, o, e, hc 0 _ rfl, hc 1 _ rfl⟩
def greatA (L : List Kact) (m : Int) : Bool := L.any (fun a => decide (300 < a.1.size)) || decide (m < (L.length : Int))
theorem great_take {L : List Kact} {j : Nat} {a : Kact} (h : L[j]? = some a) : (L.take (j + 1)).any (fun a => decide (300 < a.1.size)) = ((L.take j).any (fun a => decide (300 < a.1.size)) || decide (300 < a.1.size)) := by
  rw [List.take_add_one, h, List.any_append]
  simp
theorem great_hit {L : List Kact} {j : Nat} {a : Kact} (h : L[j]? = some a) (ha : 300 < a.1.size) (m : Int) : greatA L m = true := by
  unfold greatA
  rw [Bool.or_eq_true]
  left
  rw [List.any_eq_true]
  exact ⟨a, List.mem_of_getElem? h, by simpa using ha⟩
set_option maxRecDepth 100000 in
set_option maxHeartbeats 1000000 in
theorem great_any (A : Option Addr) (c : Nat) (L : List Kact) (m : Int) (w : World) (hL : L.length ≤ 9223372036854775807) (hr : RowOf w 2 actCells A L) : Calls Tryd.prog 12 #[.slice A L.length c, .int .i64 m] w fun e w' => e = .returned (.bool (greatA L m)) ∧ w = w' := by
  have HR := hide hr
  clear hr
  have HG := hide (show greatA L m = (L.any (fun a => decide (300 < a.1.size)) || decide (m < (L.length : Int))) from rfl)
  have HH := hide (fun j a h ha => great_hit (L := L) (j := j) (a := a) h ha m)
  obtain ⟨n, hn⟩ : ∃ n, L.length = n := ⟨_, rfl⟩
  have HN := hide hn
  rw [hn] at hL HG ⊢
  clear hn
  go_enter Tryd.func12, Tryd.ntmps12
  go_wp2
  go_loop [5] (fun i => ∃ k : Nat, i = .int .i64 k ∧ k ≤ n ∧ Hid ((L.take k).any (fun a => decide (300 < a.1.size)) = false)) (fun i => n - (intOf i).toNat)
  case atStart => exact ⟨0, rfl, by omega, hide (by simp)⟩
  case round =>
    obtain ⟨k, rfl, hk, HT⟩ := hrel
    by_cases hlt : k < n
    · obtain ⟨x, hx⟩ : ∃ x, L[k]? = some x := ⟨_, List.getElem?_eq_getElem (by rw [HN.out]; exact hlt)⟩
      obtain ⟨b, o, rfl, x0, x1⟩ := act_at HR.out hx
      have hh := HH.out k x hx
      have hs := great_take hx
      rw [HT.out] at hs
      clear hx
      obtain ⟨s, t⟩ := x
      dsimp only at x0 x1 hh hs
      by_cases h3 : 300 < s.size
      · have HGT := hide (hh h3)
        have h3' : (300 : Int) < (s.size : Int) := by omega
        clear hh hs
        go_wp2
        go_ret
        exact ⟨ret_boolK HGT.out.symm, rfl⟩
      · have HS := hide (show (L.take (k + 1)).any (fun a => decide (300 < a.1.size)) = false by rw [hs]; simpa using h3)
        have h3' : ¬ (300 : Int) < (s.size : Int) := by omega
        clear hh hs
        go_wp2
        go_round
        case rel => exact ⟨k + 1, by go_num, by omega, HS⟩
        case measure => simp [intOf]; omega
    · have HE := hide (show greatA L m = decide (m < (n : Int)) by
        rw [HG.out]
        have := HT.out
        rw [List.take_of_length_le (by rw [HN.out]; omega)] at this
        rw [this, Bool.false_or])
      go_wp2
      go_ret
      exact ⟨ret_boolK HE.out.symm, rfl⟩
theorem great_no {L : List Kact} {m : Int} (h : greatA L m = false) : (L.length : Int) ≤ m ∧ ∀ a ∈ L, a.1.size ≤ 300 := by
  unfold greatA at h
  rw [Bool.or_eq_false_iff] at h
  refine ⟨by have := of_decide_eq_false h.2; omega, fun a ha => ?_⟩
  have := List.any_eq_false.1 h.1 a ha
  simpa using this
/-- What waits, as the reference's cells say it. -/
theorem ps_cells {w W : World} {D R : Nat} {b : Bool} {t : ByteArray} (h : PS w D R (b, t) W) : W.cell? ⟨R, 1, none⟩ = some (.bool b) ∧ (b = false → W.cell? ⟨R, 0, none⟩ = some (.string t)) := by
  obtain ⟨h1, s, h2, h3⟩ := h.reads
  exact ⟨h1, fun e => by rw [h2, h3 e]⟩
end Go.Proofs.YtiilgeinkocanaaDoor
