/- Contract of limnerlaw09.Told. -/
import Derived.Test.YtiilgeinkocanaaDoorKfeed2
import Derived.Test.YtiilgeinkocanaaDoorKsame
namespace Go.Proofs.YtiilgeinkocanaaDoor
open Go.RowKit

/-- The blocks of a decoder that the call made: all lie above a base that lies above the tables. -/
def AllGe (B : Nat) (F : List Nat) : Prop := ∀ k ∈ F, B ≤ k
theorem AllGe.safe {B : Nat} {F : List Nat} {w : World} (h : AllGe B F) (hU : UTabs w) (hT : WTabs w) (hB : w.heap.size ≤ B) : ∀ k ∈ F, SafeB k := by
  intro k hk
  have hk := h k hk
  have h1 := hT.lt
  have h2 := World.block_lt_of_cell? _ _ (hU.1 0 (by decide))
  have h3 := World.block_lt_of_cell? _ _ (hU.2 0 (by decide)).1
  dsimp only at h2 h3
  exact ⟨by omega, by omega, by omega, by omega⟩
/-- A row that none of the blocks is stays. -/
theorem OwnK.stays {F : List Nat} {W W' : World} {B : Nat} {v : Value} {L : List Ky} (h : OwnK W B v L) (hx : Ex F W W') (hn : ∀ k, v.ownBlock = some k → k ∉ F) : OwnK W' B v L := by
  refine ⟨h.1, ?_⟩
  rcases h.2 with h0 | ⟨g, cap, cur, rfl, hg, hh, r⟩
  · exact .inl h0
  · exact .inr ⟨g, cap, cur, rfl, hg, (hx.block g (Array.getElem?_eq_some_iff.1 hh).1 (hn g rfl)).trans hh, r⟩
theorem DecAt.keep {W W' : World} {D : Nat} {F : List Nat} {st : KS} (h : DecAt W D F st) (hk : ∀ k ∈ F, W'.heap[k]? = W.heap[k]?) : DecAt W' D F st := by
  rcases h with ⟨h1, rfl, h2⟩ | ⟨h1, q, v, hF, h2, h3, h4⟩
  · exact .inl ⟨h1, rfl, (hk D (by simp)).trans h2⟩
  · have hD : D ∈ F ∧ q ∈ F := by rcases hF with ⟨rfl, -⟩ | ⟨g, n, c, rfl, -⟩ <;> simp
    refine .inr ⟨h1, q, v, hF, (hk D hD.1).trans h2, (hk q hD.2).trans h3, h4.1, ?_⟩
    rcases h4.2 with h0 | ⟨g, cap, cur, rfl, hg, hh, r⟩
    · exact .inl h0
    · have hgF : g ∈ F := by
        rcases hF with ⟨-, e, -⟩ | ⟨g', n, c, rfl, e⟩
        · cases e
        · injection e with e; injection e with e; injection e with e; simp [e]
      exact .inr ⟨g, cap, cur, rfl, hg, (hk g hgF).trans hh, r⟩
theorem DecAt.lt {W : World} {D : Nat} {F : List Nat} {st : KS} (h : DecAt W D F st) : ∀ k ∈ F, k < W.heap.size := by
  intro k hk
  rcases h with ⟨h1, rfl, h2⟩ | ⟨h1, q, v, hF, h2, h3, h4⟩
  · rw [List.mem_singleton.1 hk]; exact h2.lt
  · rcases hF with ⟨rfl, -⟩ | ⟨g, n, c, rfl, rfl⟩
    · simp at hk; rcases hk with rfl | rfl; exact h2.lt; exact h3.lt
    · simp at hk
      rcases hk with rfl | rfl | rfl
      · exact h2.lt
      · exact h3.lt
      · exact (h4.lt k rfl).2
theorem DecAt.inF {W : World} {D : Nat} {F : List Nat} {st : KS} (h : DecAt W D F st) : D ∈ F := by
  rcases h with ⟨-, rfl, -⟩ | ⟨-, q, v, hF, -⟩
  · simp
  · rcases hF with ⟨rfl, -⟩ | ⟨g, n, c, rfl, -⟩ <;> simp
theorem DecAt.new (W : World) : DecAt (W.alloc (.cells #[.iface 9 (.string ⟨#[]⟩)] 46)) W.heap.size [W.heap.size] startK := .inl ⟨rfl, rfl, Blk.new W _ [.iface 9 (.string ⟨#[]⟩)]⟩
theorem Ex.low {F : List Nat} {B : Nat} {w W W' : World} (hb : Below B w W) (h : Ex F W W') (hF : AllGe B F) (hB : B ≤ W.heap.size) : Below B w W' := hb.trans (h.below hF hB)
theorem DecAt.off {W : World} {D B : Nat} {F : List Nat} {st : KS} {v : Value} {L : List Ky} (h : DecAt W D F st) (ho : OwnK W B v L) : ∀ k, v.ownBlock = some k → k ∉ F := by
  intro k hk hm
  rcases ho.2 with ⟨rfl, -⟩ | ⟨g, cap, cur, rfl, hg, hh, -⟩
  · cases hk
  · have e2 : some g = some k := hk
    injection e2 with e2
    subst e2
    have no : ∀ {t : TypeId} {cs : List Value}, Blk W g t cs → t ≠ 26 → False := by
      intro t cs hb ht
      rw [show W.heap[g]? = _ from hb] at hh
      injection hh with hh
      injection hh with _ hh _
      exact ht hh
    rcases h with ⟨-, rfl, h1⟩ | ⟨-, q, u, hF, h1, h2, h3⟩
    · rw [List.mem_singleton.1 hm] at no; exact no h1 (by decide)
    · rcases hF with ⟨rfl, -⟩ | ⟨g2, n, c, rfl, rfl⟩
      · simp at hm; rcases hm with rfl | rfl
        · exact no h1 (by decide)
        · exact no h2 (by decide)
      · simp at hm
        rcases hm with rfl | rfl | rfl
        · exact no h1 (by decide)
        · exact no h2 (by decide)
        · rcases h3.2 with ⟨e, -⟩ | ⟨g3, cap3, cur3, e, hg3, hh3, -⟩
          · cases e
          · injection e with e; injection e with e; injection e with e
            subst e
            rw [hh] at hh3
            injection hh3 with hh3
            injection hh3 with _ hh3 _
            exact absurd hh3 (by decide)
/-- A decoder of the call's own, and the keys so far. -/
structure TS (B : Nat) (w : World) (D : Nat) (st : KS) (v : Value) (L : List Ky) (W : World) : Prop where
  dec : ∃ F, DecAt W D F st ∧ AllGe B F
  own : OwnK W B v L
  low : Below B w W
theorem TS.step {B D : Nat} {w W W1 W2 : World} {st st' : KS} {v v2 : Value} {L N : List Ky} {F : List Nat} (h : TS B w D st v L W) (hB : B ≤ W.heap.size) (hdec : DecAt W D F st) (hge : AllGe B F)
    (hF : ∃ F', DecAt W1 D F' st' ∧ ∀ k ∈ F', k ∈ F ∨ W.heap.size ≤ k) (hx : Ex F W W1) (hown2 : OwnK W2 B v2 (L ++ N)) (hg : W1.grownBy W2 v.ownBlock) : TS B w D st' v2 (L ++ N) W2 := by
  obtain ⟨F', h1, h2⟩ := hF
  have hown1 : OwnK W1 B v L := h.own.stays hx (hdec.off h.own)
  refine ⟨⟨F', h1.keep (fun k hk => hg.block k (h1.lt k hk) (fun e => h1.off hown1 k e.symm hk)), fun k hk => (h2 k hk).elim (hge k) (fun h => Nat.le_trans hB h)⟩, hown2, ?_⟩
  exact (Ex.low h.low hx hge hB).grown hg (Nat.le_trans hB hx.size) (own_ge h.own)
theorem TS.below {B D : Nat} {w W W1 : World} {st : KS} {v : Value} {L : List Ky} (h : TS B w D st v L W) (hB : B ≤ W.heap.size) (hb : Below W.heap.size W W1) : TS B w D st v L W1 := by
  obtain ⟨F, h1, h2⟩ := h.dec
  exact ⟨⟨F, h1.keep (fun k hk => hb.block k (h1.lt k hk)), h2⟩, h.own.below hb, h.low.trans (hb.mono hB)⟩
theorem TS.quiet {B D : Nat} {w W W1 : World} {st st' : KS} {v : Value} {L : List Ky} {F : List Nat} (h : TS B w D st v L W) (hB : B ≤ W.heap.size) (hdec : DecAt W D F st) (hge : AllGe B F)
    (hF : ∃ F', DecAt W1 D F' st' ∧ ∀ k ∈ F', k ∈ F ∨ W.heap.size ≤ k) (hx : Ex F W W1) : TS B w D st' v L W1 := by
  obtain ⟨F', h1, h2⟩ := hF
  exact ⟨⟨F', h1, fun k hk => (h2 k hk).elim (hge k) (fun h => Nat.le_trans hB h)⟩, h.own.stays hx (hdec.off h.own), Ex.low h.low hx hge hB⟩
theorem TS.start (w : World) : TS w.heap.size w w.heap.size startK (.slice none 0 0) [] (w.alloc (.cells #[.iface 9 (.string ⟨#[]⟩)] 46)) :=
  ⟨⟨_, DecAt.new w, fun k hk => by rw [List.mem_singleton.1 hk]; exact Nat.le_refl _⟩, OwnK.nil _ _, (Below.refl _ _).alloc (Nat.le_refl _) _⟩
theorem KeysV.of_own {W : World} {B : Nat} {v : Value} {L : List Ky} (h : OwnK W B v L) (h0 : L = [] → v = .slice none 0 0) : KeysV W v L := h.keys h0
/-- A feed, and its keys hung on: as one step of a loop. -/
theorem run_take {s : ByteArray} {k : Nat} (hk : k < s.size) (st : KS) : runK st (s.data.toList.take (k + 1)) = ((feedK (runK st (s.data.toList.take k)).1 (s[k].toNat : Int)).1, (runK st (s.data.toList.take k)).2 ++ (feedK (runK st (s.data.toList.take k)).1 (s[k].toNat : Int)).2) := by
  rw [take_byte hk, runK_app]
  simp [runK]
theorem run_keys_len (st : KS) (l : List UInt8) : (runK st l).2.length ≤ 2 * l.length := by
  induction l generalizing st with
  | nil => simp [runK]
  | cons c l ih =>
    simp only [runK, List.length_append, List.length_cons]
    have h1 := ih (feedK st c.toNat).1
    have h2 := feed_keys st (c.toNat : Int)
    omega
theorem run_size (st : KS) (l : List UInt8) : (runK st l).1.2.size ≤ st.2.size + l.length := by
  induction l generalizing st with
  | nil => simp [runK]
  | cons c l ih =>
    simp only [runK, List.length_cons]
    have h1 := ih (feedK st c.toNat).1
    have h2 := feed_size st (c.toNat : Int)
    omega
theorem run_all (s : ByteArray) : s.data.toList.take s.size = s.data.toList := List.take_of_length_le (by rw [Array.length_toList]; exact Nat.le_refl _)
set_option maxRecDepth 100000 in
set_option maxHeartbeats 2000000 in
theorem told_any (s : ByteArray) (tick : Bool) (w : World) (hU : UTabs w) (hT : WTabs w) (hs : s.size ≤ 400000) :
    Calls Tryd.prog 10 #[.string s, .bool tick] w fun e w' => ∃ v, e = .returned v ∧ OwnK w' w.heap.size v (toldK s tick) ∧ (toldK s tick = [] → v = .slice none 0 0) ∧ Below w.heap.size w w' := by
  have HU := hide (fun W (hW : Below w.heap.size w W) => UTabs.below hU hW)
  have HT := hide (fun W (hW : Below w.heap.size w W) => WTabs.below hT hW)
  have HSF := hide (fun F (hF : AllGe w.heap.size F) => hF.safe hU hT (Nat.le_refl _))
  have HTD := hide (show toldK s tick = (runK startK s.data.toList).2 ++ if tick = true then (tickK (runK startK s.data.toList).1).2 else [] from rfl)
  clear hU hT
  go_enter Tryd.func10, Tryd.ntmps10
  go_wp2_with fail
  refine (new_any w).mono ?_
  rintro e w1 ⟨rfl, rfl⟩
  go_wp2_with fail
  go_loopw [6, 7] (fun v i wr => ∃ (k : Nat) (A : Option Addr) (n c : Nat), v = .slice A n c ∧ i = .int .i64 k ∧ k ≤ s.size ∧ n ≤ 2 * k ∧ Hid (TS w.heap.size w w.heap.size (runK startK (s.data.toList.take k)).1 (.slice A n c) (runK startK (s.data.toList.take k)).2 wr) ∧ Hid (n = (runK startK (s.data.toList.take k)).2.length) ∧ Hid ((runK startK (s.data.toList.take k)).2 = [] → (.slice A n c : Value) = .slice none 0 0)) (fun _ i _ => s.size - (intOf i).toNat)
  case atStart => exact ⟨0, none, 0, 0, rfl, rfl, by omega, by omega, hide (TS.start w), hide (by simp [runK]), hide (fun _ => rfl)⟩
  case round =>
    obtain ⟨k, A, n, c, rfl, rfl, hk, hn, H, HN, HE⟩ := hrel
    by_cases hlt : k < s.size
    · have HRT := hide (run_take hlt startK)
      have HSZ := hide (show (runK startK (s.data.toList.take k)).1.2.size ≤ 400000 by have := run_size startK (s.data.toList.take k); rw [List.length_take] at this; have e : startK.2.size = 0 := rfl; omega)
      obtain ⟨st, hst⟩ : ∃ st, (runK startK (s.data.toList.take k)).1 = st := ⟨_, rfl⟩
      obtain ⟨L, hL⟩ : ∃ L, (runK startK (s.data.toList.take k)).2 = L := ⟨_, rfl⟩
      rw [hst, hL] at HRT H
      rw [hst] at HSZ
      rw [hL] at HN HE
      clear hst hL
      obtain ⟨F, hdec, hge⟩ := H.out.dec
      have HDEC := hide hdec
      have HGE := hide hge
      have hB : w.heap.size ≤ wr.heap.size := H.out.low.size
      have hb0 := (s[k]).toNat_lt
      have HFD := hide (feed_any w.heap.size F st (s[k].toNat : Int) wr (HU.out _ H.out.low) (HT.out _ H.out.low) (by omega) (by omega) (HSF.out F hge) (by have := HSZ.out; omega) hdec)
      have HFK := hide (feed_keys st (s[k].toNat : Int))
      clear hdec hge hb0
      go_wp2_with fail
      refine HFD.out.mono ?_
      rintro e w2 ⟨u, rfl, ho, hnl, hF, hx⟩
      have HKU := hide (ho.keys hnl)
      have HF := hide hF
      have HX := hide hx
      have HO1 := hide (H.out.own.stays hx (HDEC.out.off H.out.own))
      have hB2 : w.heap.size ≤ w2.heap.size := Nat.le_trans hB hx.size
      clear ho hnl hF hx
      go_wp2_with (at_builtin; refine wpList_keys w2 rfl (.tmp 15) (.tmp 20) rfl w.heap.size hB2 _ _ _ _ rfl rfl HO1.out HKU.out (by have := HN.out; have := HFK.out; omega) ?_; intro v2 w3 hown hg hb2 hnil; have HTS := hide (H.out.step hB HDEC.out HGE.out HF.out HX.out hown hg); obtain ⟨A2, c2, hv2⟩ := hown.form; obtain ⟨m2, hm2⟩ : ∃ m, (L ++ (feedK st (s[k].toNat : Int)).2).length = m := ⟨_, rfl⟩; rw [hm2] at hv2; subst hv2; have HM2 := hide hm2; have HNIL := hide (show (.slice A2 m2 c2 : Value) = .slice none 0 0 ↔ (.slice A n c : Value) = .slice none 0 0 ∧ (feedK st (s[k].toNat : Int)).2 = [] from hnil); clear hown hg hb2 hnil hm2)
      go_roundw
      case rel => exact ⟨k + 1, A2, m2, c2, rfl, by go_num, by omega, by rw [← HM2.out, List.length_append]; have := HN.out; have := HFK.out; omega, hide (by rw [HRT.out]; exact HTS.out), hide (by rw [HRT.out]; exact HM2.out.symm), hide (by
        rw [HRT.out]
        intro e
        have e := List.append_eq_nil_iff.1 e
        exact HNIL.out.2 ⟨HE.out e.1, e.2⟩)⟩
      case measure => simp [intOf]; omega
    · obtain rfl : k = s.size := by omega
      rw [run_all] at H HN HE
      cases tick
      · have HEQ := hide (show toldK s false = (runK startK s.data.toList).2 by rw [HTD.out]; simp)
        go_wp2_with fail
        go_ret
        rw [HEQ.out]
        exact ⟨_, rfl, H.out.own, HE.out, H.out.low⟩
      · have HEQ := hide (show toldK s true = (runK startK s.data.toList).2 ++ (tickK (runK startK s.data.toList).1).2 by rw [HTD.out]; simp)
        obtain ⟨st, hst⟩ : ∃ st, (runK startK s.data.toList).1 = st := ⟨_, rfl⟩
        obtain ⟨L, hL⟩ : ∃ L, (runK startK s.data.toList).2 = L := ⟨_, rfl⟩
        rw [hst, hL] at HEQ H
        rw [hL] at HN HE
        clear hst hL
        obtain ⟨F, hdec, hge⟩ := H.out.dec
        have HDEC := hide hdec
        have HGE := hide hge
        have hB : w.heap.size ≤ wr.heap.size := H.out.low.size
        have HFD := hide (tick_any w.heap.size F st wr hdec)
        have HFK := hide (tick_keys st)
        clear hdec hge
        go_wp2_with fail
        refine HFD.out.mono ?_
        rintro e w2 ⟨u, rfl, ho, hnl, hF, hx⟩
        have HKU := hide (ho.keys hnl)
        have HF := hide hF
        have HX := hide hx
        have HO1 := hide (H.out.own.stays hx (HDEC.out.off H.out.own))
        have hB2 : w.heap.size ≤ w2.heap.size := Nat.le_trans hB hx.size
        clear ho hnl hF hx
        go_wp2_with (at_builtin; refine wpList_keys w2 rfl (.tmp 23) (.tmp 25) rfl w.heap.size hB2 _ _ _ _ rfl rfl HO1.out HKU.out (by have := HN.out; have := HFK.out; omega) ?_; intro v2 w3 hown hg hb2 hnil; have HTS := hide (H.out.step hB HDEC.out HGE.out HF.out HX.out hown hg); obtain ⟨A2, c2, hv2⟩ := hown.form; obtain ⟨m2, hm2⟩ : ∃ m, (L ++ (tickK st).2).length = m := ⟨_, rfl⟩; rw [hm2] at hv2; subst hv2; have HM2 := hide hm2; have HNIL := hide (show (.slice A2 m2 c2 : Value) = .slice none 0 0 ↔ (.slice A n c : Value) = .slice none 0 0 ∧ (tickK st).2 = [] from hnil); clear hown hg hb2 hnil hm2)
        go_ret
        rw [HEQ.out]
        exact ⟨_, rfl, HTS.out.own, fun e => (by have e := List.append_eq_nil_iff.1 e; exact HNIL.out.2 ⟨HE.out e.1, e.2⟩), HTS.out.low⟩
end Go.Proofs.YtiilgeinkocanaaDoor
