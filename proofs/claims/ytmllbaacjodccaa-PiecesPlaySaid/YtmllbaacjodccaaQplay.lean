/- The walk of limnerlaw03.PiecesPlay. -/
import Derived.Test.YtmllbaacjodccaaQplay2
import Derived.BigQuiet
import Derived.Deep.QuietTactic
namespace Go.Proofs.Ytmllbaacjodccaa
open Go.RowKit

theorem below_drewNQ {B : Nat} {a w : World} (h : Below B a w) (n : Nat) : Below B a (w.drewN n) := ⟨h.os, h.tape, h.output, h.size, h.block⟩
set_option maxHeartbeats 8000000 in
set_option maxRecDepth 100000 in
theorem PiecesPlay_any (s : ByteArray) (A : Option Addr) (cap : Nat) (l : List Pact) (w : World) (hs : s.size ≤ maxLen) (hcap : l.length ≤ cap) (hmax : cap ≤ maxLen) (h : RowOf w 4 pactCells A l) (hk : ∀ x ∈ l, 0 ≤ x.1 ∧ x.1 ≤ 255 ∧ x.2.2.2.size ≤ maxLen) :
    Calls Try.prog 6 #[.string s, .slice A l.length cap] w fun e w' => e = .returned (.bool true) ∧ Below w.heap.size w w' := by
  by_cases h1 : 17000 < s.size
  · exact play_long s _ w h1 hs
  by_cases h2 : 60 < l.length
  · exact play_many s A _ cap w (by omega) h2 hcap hmax
  by_cases h3 : 16384 < s.size
  · exact play_full s A _ cap w (by omega) h3 (by omega)
  have HC := hide h
  have HK := hide hk
  clear h hk
  unfold maxLen at hs hmax
  have g1 : ¬ (17000 : Int) < (s.size : Int) := by omega
  have g2 : ¬ (60 : Int) < (l.length : Int) := by omega
  have HN := fun w' => rnew3 s w' (by omega)
  simp only [if_neg h3] at HN
  have HN := hide HN
  have HB := hide (Below.refl w.heap.size w)
  clear h1 h2
  go_enter Try.func6, Try.ntmps6
  go_wp2_with fail
  refine (new_any (R := fun _ => False) s _ (by omega) (fun _ _ h => h)).mono ?_; rintro e w1 ⟨p, rfl, t1, b1⟩
  obtain ⟨pb, _, rfl, _⟩ := id t1
  have HT := hide t1
  replace HB := hide (HB.out.trans (b1.mono HB.out.size))
  clear t1 b1
  go_wp2_with fail
  refine (HN.out _).mono ?_; rintro e w2 ⟨rfl, rfl⟩
  have HST := hide (PT.start HB.out HT.out (by omega))
  go_wp2_with fail
  go_loopw [9, 10, 11] (fun vt vs i wr => ∃ (n : Nat) (L : List Tx), n ≤ l.length ∧ i = .int .i64 n ∧ Hid (PT w wr vt vs n L)) (fun _ _ i _ => l.length - (intOf i).toNat)
  case atStart => exact ⟨0, _, by omega, rfl, HST⟩
  case round =>
    clear HST HT HB
    obtain ⟨n, L, hn, rfl, HP⟩ := hrel
    obtain ⟨g, c, g', c', rfl, rfl, hrd⟩ := HP.out.reads
    have HRD := hide hrd
    clear hrd
    have hL0 := HP.out.2.2.2.2.2
    have hL1 := HP.out.2.2.2.2.1
    by_cases hlt : n < l.length
    · obtain ⟨⟨k, f, t, S⟩, hx⟩ : ∃ x, l[n]? = some x := ⟨_, List.getElem?_eq_getElem hlt⟩
      obtain ⟨b, o, rfl, hbl, e0, e1, e2, e3⟩ := pact_at HC.out hx
      obtain ⟨hk0, hk1, hS⟩ := HK.out _ (List.mem_of_getElem? hx)
      unfold maxLen at hS
      dsimp only at e0 e1 e2 e3 hk0 hk1 hS
      have hb9 : ∀ q, wr.cell? ⟨b, q, none⟩ = w.cell? ⟨b, q, none⟩ := fun q => HP.out.2.2.2.1.cell (p := ⟨b, q, none⟩) hbl
      replace e0 := (hb9 _).trans e0
      replace e1 := (hb9 _).trans e1
      replace e2 := (hb9 _).trans e2
      replace e3 := (hb9 _).trans e3
      have hbw : b < wr.heap.size := Nat.lt_of_lt_of_le hbl HP.out.2.2.2.1.size
      clear hb9 hx hbl
      by_cases h5 : 3000 < S.size
      · have h5' : (3000 : Int) < (S.size : Int) := by omega
        go_wp2_with fail
        have hb0 : Below w.heap.size w (wr.alloc (.cells #[.int .u8 k, .int .i64 f, .int .i64 t, .string S] 45)) := below_allocP HP.out.2.2.2.1 _
        refine (put_any _).mono ?_; rintro e w3 ⟨rfl, b1⟩
        go_wp2
        go_ret
        exact ⟨rfl, hb0.trans (b1.mono hb0.size)⟩
      have h5' : ¬ (3000 : Int) < (S.size : Int) := by omega
      obtain ⟨q, hq⟩ : ∃ q, q + 1 = L.length := ⟨L.length - 1, by omega⟩
      have hw1 : IntKind.i64.wrap ((L.length : Int) - 1) = (q : Int) := by rw [Go.wrap_small _ (by omega) (by omega)]; omega
      have hq0 : (0 : Int) ≤ (q : Int) := by omega
      have hq1 : (q : Int) < (L.length : Int) := by omega
      have hqL : q < L.length := by omega
      obtain ⟨⟨p, zs, r⟩, hxq⟩ : ∃ x, L[q] = x := ⟨_, rfl⟩
      have c0 := HRD.out q hqL
      have hT0 := HP.out.2.2.1 _ (List.getElem_mem hqL)
      rw [hxq] at c0 hT0
      dsimp only at c0
      obtain ⟨c1, c2⟩ := c0
      have HTx := hide hT0
      clear hT0 hxq
      go_wp2_with fail
      have HA := hide (ActQ.new wr k f t S)
      have hb0 : Below wr.heap.size wr (wr.alloc (.cells #[.int .u8 k, .int .i64 f, .int .i64 t, .string S] 45)) := below_allocP (Below.refl _ _) _
      have HPb := hide (HP.out.below hb0)
      have c1b := cell_below c1 hb0
      have c2b := cell_below c2 hb0
      have HTb := hide (HTx.out.1.below hb0)
      have HOk := hide HTx.out.2
      have HRDb := hide (fun (j : Nat) (hj : j < L.length) => (⟨cell_below (HRD.out j hj).1 hb0, cell_below (HRD.out j hj).2 hb0⟩ : _ ∧ _))
      obtain ⟨blk, hblk⟩ : ∃ q, wr.heap.size = q := ⟨_, rfl⟩
      obtain ⟨wb, hwb⟩ : ∃ q, wr.alloc (.cells #[.int .u8 k, .int .i64 f, .int .i64 t, .string S] 45) = q := ⟨_, rfl⟩
      rw [hwb] at HA HPb c1b c2b HTb HRDb ⊢
      rw [hblk] at HA ⊢
      clear hb0 hblk hwb HP c1 c2 HTx HRD e0 e1 e2 e3 hbw
      go_quiet (fail)
      rename_i nq
      have hbd : Below wb.heap.size wb (wb.drewN nq) := below_drewNQ (Below.refl _ _) _
      obtain ⟨wd, hwd⟩ : ∃ q, wb.drewN nq = q := ⟨_, rfl⟩
      rw [hwd] at hbd ⊢
      replace HA := hide (HA.out.below hbd)
      have HPd := hide (HPb.out.below hbd)
      have HTd := hide (HTb.out.below hbd)
      have HRDd := hide (fun (j : Nat) (hj : j < L.length) => (⟨cell_below (HRDb.out j hj).1 hbd, cell_below (HRDb.out j hj).2 hbd⟩ : _ ∧ _))
      clear hbd hwd HPb HTb HRDb c1b c2b
      obtain ⟨a0, a1, a2, a3⟩ := HA.out
      have hbw : blk < wd.heap.size := World.block_lt_of_cell? _ _ a0
      obtain ⟨m, hm⟩ : ∃ m, k % 5 = m := ⟨_, rfl⟩
      have hm0 : 0 ≤ m := by omega
      have hm4 : m ≤ 4 := by omega
      by_cases m2 : m = 2
      · subst m2
        by_cases hz : ((refDel r f t).2 : Int) = 0
        · as_aux_lemma =>
            have HR := hide (fun w' => rdel3 r f t w' (by have := HOk.out.2.2.1; have := HOk.out.size; dsimp only at *; omega))
            obtain ⟨v2, hv2⟩ : ∃ v, (refDel r f t).1 = v := ⟨_, rfl⟩
            have HY := hide (del_yes (p, zs, r) n f t wd HTd.out HOk.out (by omega) HPd.out.lows hz)
            have HY := HY.out
            dsimp only at HY
            rw [hv2] at HY
            have HY := hide HY
            have HR := HR.out
            rw [hz, hv2] at HR
            have HR := hide HR
            clear hz hv2
            go_wp2_with fail
            refine HY.out.mono ?_; rintro e w3 ⟨bn, zn, rfl, t3, o3, l3, b3⟩
            have HP3 := hide (HPd.out.below b3)
            obtain ⟨-, n1, n2, n3⟩ := HA.out.below b3
            have hbw3 : blk < w3.heap.size := Nat.lt_of_lt_of_le hbw b3.size
            have HT3 := hide (HTd.out.below b3)
            have HN3 := hide t3
            have HO3 := hide o3
            have ho3 := o3.2.2.2
            clear b3 t3 o3 HY
            go_wp2_with fail
            refine (HR.out _).mono ?_; rintro e w4 ⟨rfl, b3⟩
            have HP4 := hide (HP3.out.below b3)
            have HT4 := hide (HT3.out.below b3)
            have HN4 := hide (HN3.out.below b3)
            clear b3 HP3 HT3 HN3 HR
            have hzn : zn.length ≤ 1000 := by omega
            have hzs : zs.length ≤ 1000 := by have := HOk.out.2.2.2; dsimp only at this; omega
            have hnl : ¬ zs.length + 1 < zn.length := by omega
            have hnl2 : ¬ (zs.length : Int) + 1 < (zn.length : Int) := by omega
            clear ho3
            go_wp2_with fail
            refine (pieces_any _ zn _ HN4.out).mono ?_; rintro e w5 ⟨rfl, b3⟩
            have HP5 := hide (HP4.out.below b3)
            have HT5 := hide (HT4.out.below b3)
            have HN5 := hide (HN4.out.below b3)
            clear b3 HP4 HT4 HN4
            go_wp2_with fail
            refine (pieces_any _ zs _ HT5.out).mono ?_; rintro e w6 ⟨rfl, b3⟩
            have HP6 := hide (HP5.out.below b3)
            have HN6 := hide (HN5.out.below b3)
            clear b3 HP5 HT5 HN5
            go_wp2_with (first
              | (at_builtin; refine wpList_own1 _ rfl _ _ 43 rfl w.heap.size (below_allocP HP6.out.2.2.2.1 _).size 25 Try.underlying43 (.pointer none) 8 info_ptrQ rfl (by decide) _ _ _ rfl (own_belowQ HP6.out.1 (below_allocP (Below.refl _ _) _)) (.pointer (some ⟨bn, 0, none⟩)) rfl ⟨w6.heap.size, 0, none⟩ 1 rfl (cn0 _ _ _) (by omega) ?_; intro vt9 w9 hown hg hm; have HP9 := hide (PT.push1 (x := (.pointer (some ⟨bn, 0, none⟩), zn, v2)) (HP6.out.below (below_allocP (Below.refl _ _) _)) (HN6.out.below (below_allocP (Below.refl _ _) _)) HO3.out hown hg); clear hown hg hm)
              | (at_builtin; refine wpList_own1 _ rfl _ _ 35 rfl w.heap.size (below_allocP HP9.out.2.2.2.1 _).size 9 Try.underlying35 (.string ⟨#[]⟩) 16 info_str rfl (by decide) _ _ _ rfl (own_belowQ HP9.out.2.1 (below_allocP (Below.refl _ _) _)) (.string v2) rfl ⟨w9.heap.size, 0, none⟩ 1 rfl (cn0 _ _ _) (by omega) ?_; intro vs9 w10 hown hg hm; have HP10 := hide (PT1.push2 (HP9.out.below (below_allocP (Below.refl _ _) _)) hown hg hm); clear hown hg hm))
            go_roundw
            case rel => exact ⟨n + 1, _, by omega, by go_num, HP10⟩
            case measure => simp [intOf]; omega
        · as_aux_lemma =>
            have HR := hide (fun w' => rdel3 r f t w' (by have := HOk.out.2.2.1; have := HOk.out.size; dsimp only at *; omega))
            obtain ⟨v2, hv2⟩ : ∃ v, (refDel r f t).1 = v := ⟨_, rfl⟩
            obtain ⟨e2, he2⟩ : ∃ e, (refDel r f t).2 = e := ⟨_, rfl⟩
            have HY := del_no (p, zs, r) n f t wd HTd.out HOk.out hz
            dsimp only at HY
            rw [he2] at HY hz
            have HY := hide HY
            have HR := HR.out
            rw [hv2, he2] at HR
            have HR := hide HR
            have hq : (e2 == 0) = false := by simpa using hz
            have hq2 : (e2 != 0) = true := by simpa using hz
            clear hv2 he2
            go_wp2_with fail
            refine HY.out.mono ?_; rintro e w3 ⟨rfl, rfl⟩
            go_wp2_with fail
            refine (HR.out _).mono ?_; rintro e w4 ⟨rfl, b3⟩
            have HP4 := hide (HPd.out.below b3).next
            clear b3 HR HY
            go_wp2_with fail
            go_roundw
            case rel => exact ⟨n + 1, L, by omega, by go_num, HP4⟩
            case measure => simp [intOf]; omega
      by_cases m3 : m = 3
      · subst m3
        as_aux_lemma =>
          have hrs : r.size ≤ 100000 := by have := HOk.out.2.2.1; have := HOk.out.size; dsimp only at *; omega
          obtain ⟨rr, hrr⟩ : ∃ x, refSlice r f t = x := ⟨_, rfl⟩
          have HS1 := fun w' h1 h2 => slice_any2 (R := fun k => (Value.slice (some ⟨g', 0, none⟩) L.length c').ownBlock = some k) (p, zs, r) n f t w' h1 HOk.out (by omega) h2
          dsimp only at HS1
          rw [hrr] at HS1
          have HS1 := hide HS1
          have HS2 := fun w' => rslice3 r f t w' hrs
          rw [hrr] at HS2
          have HS2 := hide HS2
          clear hrr
          have HK2 := hide (show wd.cell? ⟨blk, 1, none⟩ = some (.int .i64 f) ∧ wd.cell? ⟨blk, 2, none⟩ = some (.int .i64 t) from ⟨a1, a2⟩)
          go_wp2_with fail
          go_region_held3 (fun w' => w'.cell? ⟨blk, 1, none⟩ = some (.int .i64 f) ∧ w'.cell? ⟨blk, 2, none⟩ = some (.int .i64 t) ∧ Hid (Below wd.heap.size wd w'))
            (first | exact keep2d HK2.out | exact keep2 (by assumption) hb2)
            (first
              | (go_at_call 14; refine (HS1.out _ (HTd.out.below (by assumption : _ ∧ _ ∧ Hid (Below wd.heap.size wd _)).2.2.out) (HPd.out.lows.up (by assumption : _ ∧ _ ∧ Hid (Below wd.heap.size wd _)).2.2.out.size)).mono ?_; rintro e w7 ⟨rfl, hb2⟩)
              | (go_at_call 18; refine (HS2.out _).mono ?_; rintro e w8 ⟨rfl, hw8⟩; have hb2 := below_eqQ hw8))
          all_goals go_wp2_with fail
          all_goals go_roundw
          all_goals first
            | (rename_i hH; exact ⟨n + 1, L, by omega, by go_num, hide (HPd.out.below hH.2.2.out).next⟩)
            | (simp [intOf]; omega)
      by_cases m4 : m = 4
      · subst m4
        as_aux_lemma =>
          obtain ⟨k4, z4, hw2, hz4, hk4⟩ : ∃ (k4 : Nat) (z4 : Int), IntKind.i64.wrap ((L.length : Int) - 2) = z4 ∧ max z4 0 = (k4 : Int) ∧ k4 < L.length := by
            by_cases h1 : L.length = 1
            · exact ⟨0, -1, by rw [h1]; rfl, rfl, by omega⟩
            · refine ⟨L.length - 2, (L.length : Int) - 2, Go.wrap_small _ (by omega) (by omega), by omega, by omega⟩
          have hk40 : (0 : Int) ≤ (k4 : Int) := by omega
          have hk41 : (k4 : Int) < (L.length : Int) := by omega
          obtain ⟨⟨p4, zs4, s4⟩, hx4⟩ : ∃ x, L[k4] = x := ⟨_, rfl⟩
          have c4 := HRDd.out k4 hk4
          have hT4 := HPd.out.2.2.1 _ (List.getElem_mem hk4)
          rw [hx4] at c4 hT4
          dsimp only at c4
          obtain ⟨ht4, ho4⟩ := hT4
          obtain ⟨p4, _, rfl, _⟩ := id ht4
          have HX4 := hide ht4
          have HO4 := hide (ho4.up (show n ≤ n + 1 by omega))
          have HC4 := hide c4
          have hgl : g < wd.heap.size := World.block_lt_of_cell? _ _ c4.1
          have hgl' : g' < wd.heap.size := World.block_lt_of_cell? _ _ c4.2
          have hne : g ≠ g' := fun e => by
            subst e
            exact absurd (Typed.uniq (own_kindQ HPd.out.1 g rfl) (own_kindQ HPd.out.2.1 g rfl)) (by decide)
          clear ht4 ho4 hx4 c4
          go_wp2_with fail
          go_region_held3 (fun w' => w'.cell? ⟨g, k4, none⟩ = some (.pointer (some ⟨p4, 0, none⟩)) ∧ w'.cell? ⟨g', k4, none⟩ = some (.string s4))
            (first
              | exact keep2c HC4.out (below_drewP (Below.refl _ _))
              | exact keep2S HG10.out HK10.out hk4 hne (by assumption)
              | exact keep2T HG10.out HK10.out hk4 hne (by assumption)
              | exact keep2S HG9.out HK9.out hk4 hne (by assumption)
              | exact keep2T HG9.out HK9.out hk4 hne (by assumption)
              | exact keep2c (by assumption) (below_allocP (Below.refl _ _) _))
            (first
              | (refine step_own1 rfl (.tmp 223) (.tmp 228) 35 rfl w.heap.size (HPd.out.below (by first | exact bt1 _ _ | exact bt2 _ _ _)).2.2.2.1.size 9 Try.underlying35 (.string ⟨#[]⟩) 16 info_str rfl (by decide) g' L.length c' (L.map fun x => .string x.2.2) (by simp [Act.eval, Act.put]) (HPd.out.below (by first | exact bt1 _ _ | exact bt2 _ _ _)).2.1 (.string s4) rfl ⟨wd.heap.size, 0, none⟩ 1 (by simp [Act.eval, Act.put]) (by first | exact cn1 _ _ _ | exact cn3 _ _ _ _ | exact cn2 _ _ _ _) (by omega) ?_; intro v9 w9 hown hg hm hk; have HP9 := hide (PT.pushS (x := (.pointer (some ⟨p4, 0, none⟩), zs4, s4)) (HPd.out.below (by first | exact bt1 _ _ | exact bt2 _ _ _)) (HX4.out.below (by first | exact bt1 _ _ | exact bt2 _ _ _)) HO4.out hown hg hm); have HG9 := hide hg; have HK9 := hide hk; clear hown hg hm hk)
              | (refine step_own1 rfl (.tmp 223) (.tmp 228) 35 rfl w.heap.size (HPd.out.below (by first | exact bt1 _ _ | exact bt2 _ _ _)).2.2.2.1.size 9 Try.underlying35 (.string ⟨#[]⟩) 16 info_str rfl (by decide) g' L.length c' (L.map fun x => .string x.2.2) (by simp [Act.eval, Act.put]) (HPd.out.below (by first | exact bt1 _ _ | exact bt2 _ _ _)).2.1 (.string s4) rfl ⟨(wd.heap.size + 1), 0, none⟩ 1 (by simp [Act.eval, Act.put]) (by first | exact cn1 _ _ _ | exact cn3 _ _ _ _ | exact cn2 _ _ _ _) (by omega) ?_; intro v9 w9 hown hg hm hk; have HP9 := hide (PT.pushS (x := (.pointer (some ⟨p4, 0, none⟩), zs4, s4)) (HPd.out.below (by first | exact bt1 _ _ | exact bt2 _ _ _)) (HX4.out.below (by first | exact bt1 _ _ | exact bt2 _ _ _)) HO4.out hown hg hm); have HG9 := hide hg; have HK9 := hide hk; clear hown hg hm hk)
              | (refine step_own1 rfl (.tmp 223) (.tmp 228) 35 rfl w.heap.size (HP9.out.below (by first | exact Below.refl _ _ | exact below_allocP (Below.refl _ _) _)).2.2.2.1.size 9 Try.underlying35 (.string ⟨#[]⟩) 16 info_str rfl (by decide) g' L.length c' (L.map fun x => .string x.2.2) (by simp [Act.eval, Act.put]) (HP9.out.below (by first | exact Below.refl _ _ | exact below_allocP (Below.refl _ _) _)).2.1 (.string s4) rfl ⟨w9.heap.size, 0, none⟩ 1 (by simp [Act.eval, Act.put]) (by first | exact cn0 _ _ _ | exact lit_kept HG9.out (by first | exact cn3 _ _ _ _ | exact cn2 _ _ _ _) (by omega)) (by omega) ?_; intro v10 w10 hown hg hm hk; have HP10 := hide (PT1.push2 (HP9.out.below (by first | exact Below.refl _ _ | exact below_allocP (Below.refl _ _) _)) hown hg hm); have HG10 := hide hg; have HK10 := hide hk; clear hown hg hm hk)
              | (refine step_own1 rfl (.tmp 223) (.tmp 228) 35 rfl w.heap.size (HP9.out.below (by first | exact Below.refl _ _ | exact below_allocP (Below.refl _ _) _)).2.2.2.1.size 9 Try.underlying35 (.string ⟨#[]⟩) 16 info_str rfl (by decide) g' L.length c' (L.map fun x => .string x.2.2) (by simp [Act.eval, Act.put]) (HP9.out.below (by first | exact Below.refl _ _ | exact below_allocP (Below.refl _ _) _)).2.1 (.string s4) rfl ⟨wd.heap.size, 0, none⟩ 1 (by simp [Act.eval, Act.put]) (by first | exact cn0 _ _ _ | exact lit_kept HG9.out (by first | exact cn3 _ _ _ _ | exact cn2 _ _ _ _) (by omega)) (by omega) ?_; intro v10 w10 hown hg hm hk; have HP10 := hide (PT1.push2 (HP9.out.below (by first | exact Below.refl _ _ | exact below_allocP (Below.refl _ _) _)) hown hg hm); have HG10 := hide hg; have HK10 := hide hk; clear hown hg hm hk)
              | (refine step_own1 rfl (.tmp 223) (.tmp 228) 35 rfl w.heap.size (HP9.out.below (by first | exact Below.refl _ _ | exact below_allocP (Below.refl _ _) _)).2.2.2.1.size 9 Try.underlying35 (.string ⟨#[]⟩) 16 info_str rfl (by decide) g' L.length c' (L.map fun x => .string x.2.2) (by simp [Act.eval, Act.put]) (HP9.out.below (by first | exact Below.refl _ _ | exact below_allocP (Below.refl _ _) _)).2.1 (.string s4) rfl ⟨(wd.heap.size + 1), 0, none⟩ 1 (by simp [Act.eval, Act.put]) (by first | exact cn0 _ _ _ | exact lit_kept HG9.out (by first | exact cn3 _ _ _ _ | exact cn2 _ _ _ _) (by omega)) (by omega) ?_; intro v10 w10 hown hg hm hk; have HP10 := hide (PT1.push2 (HP9.out.below (by first | exact Below.refl _ _ | exact below_allocP (Below.refl _ _) _)) hown hg hm); have HG10 := hide hg; have HK10 := hide hk; clear hown hg hm hk)
              | (refine step_own1 rfl (.tmp 216) (.tmp 221) 43 rfl w.heap.size (HPd.out.below (by first | exact bt1 _ _ | exact bt2 _ _ _)).2.2.2.1.size 25 Try.underlying43 (.pointer none) 8 info_ptrQ rfl (by decide) g L.length c (L.map (·.1)) (by simp [Act.eval, Act.put]) (HPd.out.below (by first | exact bt1 _ _ | exact bt2 _ _ _)).1 (.pointer (some ⟨p4, 0, none⟩)) rfl ⟨wd.heap.size, 0, none⟩ 1 (by simp [Act.eval, Act.put]) (by first | exact cn1 _ _ _ | exact cn3 _ _ _ _ | exact cn2 _ _ _ _) (by omega) ?_; intro v9 w9 hown hg hm hk; have HP9 := hide (PT.push1 (x := (.pointer (some ⟨p4, 0, none⟩), zs4, s4)) (HPd.out.below (by first | exact bt1 _ _ | exact bt2 _ _ _)) (HX4.out.below (by first | exact bt1 _ _ | exact bt2 _ _ _)) HO4.out hown hg); have HG9 := hide hg; have HK9 := hide hk; clear hown hg hm hk)
              | (refine step_own1 rfl (.tmp 216) (.tmp 221) 43 rfl w.heap.size (HPd.out.below (by first | exact bt1 _ _ | exact bt2 _ _ _)).2.2.2.1.size 25 Try.underlying43 (.pointer none) 8 info_ptrQ rfl (by decide) g L.length c (L.map (·.1)) (by simp [Act.eval, Act.put]) (HPd.out.below (by first | exact bt1 _ _ | exact bt2 _ _ _)).1 (.pointer (some ⟨p4, 0, none⟩)) rfl ⟨(wd.heap.size + 1), 0, none⟩ 1 (by simp [Act.eval, Act.put]) (by first | exact cn1 _ _ _ | exact cn3 _ _ _ _ | exact cn2 _ _ _ _) (by omega) ?_; intro v9 w9 hown hg hm hk; have HP9 := hide (PT.push1 (x := (.pointer (some ⟨p4, 0, none⟩), zs4, s4)) (HPd.out.below (by first | exact bt1 _ _ | exact bt2 _ _ _)) (HX4.out.below (by first | exact bt1 _ _ | exact bt2 _ _ _)) HO4.out hown hg); have HG9 := hide hg; have HK9 := hide hk; clear hown hg hm hk)
              | (refine step_own1 rfl (.tmp 216) (.tmp 221) 43 rfl w.heap.size (HP9.out.below (by first | exact Below.refl _ _ | exact below_allocP (Below.refl _ _) _)).2.2.2.1.size 25 Try.underlying43 (.pointer none) 8 info_ptrQ rfl (by decide) g L.length c (L.map (·.1)) (by simp [Act.eval, Act.put]) (HP9.out.below (by first | exact Below.refl _ _ | exact below_allocP (Below.refl _ _) _)).1 (.pointer (some ⟨p4, 0, none⟩)) rfl ⟨w9.heap.size, 0, none⟩ 1 (by simp [Act.eval, Act.put]) (by first | exact cn0 _ _ _ | exact lit_kept HG9.out (by first | exact cn3 _ _ _ _ | exact cn2 _ _ _ _) (by omega)) (by omega) ?_; intro v10 w10 hown hg hm hk; have HP10 := hide (PTs.pushT (HP9.out.below (by first | exact Below.refl _ _ | exact below_allocP (Below.refl _ _) _)) hown hg); have HG10 := hide hg; have HK10 := hide hk; clear hown hg hm hk)
              | (refine step_own1 rfl (.tmp 216) (.tmp 221) 43 rfl w.heap.size (HP9.out.below (by first | exact Below.refl _ _ | exact below_allocP (Below.refl _ _) _)).2.2.2.1.size 25 Try.underlying43 (.pointer none) 8 info_ptrQ rfl (by decide) g L.length c (L.map (·.1)) (by simp [Act.eval, Act.put]) (HP9.out.below (by first | exact Below.refl _ _ | exact below_allocP (Below.refl _ _) _)).1 (.pointer (some ⟨p4, 0, none⟩)) rfl ⟨wd.heap.size, 0, none⟩ 1 (by simp [Act.eval, Act.put]) (by first | exact cn0 _ _ _ | exact lit_kept HG9.out (by first | exact cn3 _ _ _ _ | exact cn2 _ _ _ _) (by omega)) (by omega) ?_; intro v10 w10 hown hg hm hk; have HP10 := hide (PTs.pushT (HP9.out.below (by first | exact Below.refl _ _ | exact below_allocP (Below.refl _ _) _)) hown hg); have HG10 := hide hg; have HK10 := hide hk; clear hown hg hm hk)
              | (refine step_own1 rfl (.tmp 216) (.tmp 221) 43 rfl w.heap.size (HP9.out.below (by first | exact Below.refl _ _ | exact below_allocP (Below.refl _ _) _)).2.2.2.1.size 25 Try.underlying43 (.pointer none) 8 info_ptrQ rfl (by decide) g L.length c (L.map (·.1)) (by simp [Act.eval, Act.put]) (HP9.out.below (by first | exact Below.refl _ _ | exact below_allocP (Below.refl _ _) _)).1 (.pointer (some ⟨p4, 0, none⟩)) rfl ⟨(wd.heap.size + 1), 0, none⟩ 1 (by simp [Act.eval, Act.put]) (by first | exact cn0 _ _ _ | exact lit_kept HG9.out (by first | exact cn3 _ _ _ _ | exact cn2 _ _ _ _) (by omega)) (by omega) ?_; intro v10 w10 hown hg hm hk; have HP10 := hide (PTs.pushT (HP9.out.below (by first | exact Below.refl _ _ | exact below_allocP (Below.refl _ _) _)) hown hg); have HG10 := hide hg; have HK10 := hide hk; clear hown hg hm hk)
              | fail "none fits")
          all_goals go_wp2_with fail
          all_goals go_roundw
          all_goals first | exact ⟨n + 1, _, by omega, by go_num, HP10⟩ | (simp [intOf]; omega)
      have q2 : (m == 2) = false := by simp; omega
      have q3 : (m == 3) = false := by simp; omega
      have q4 : (m == 4) = false := by simp; omega
      clear m2 m3 m4
      by_cases hz : ((refIns r f S).2 : Int) = 0
      · as_aux_lemma =>
          have HR := hide (fun w' => rins3 r f S w' (by have := HOk.out.2.2.1; have := HOk.out.size; dsimp only at *; omega) (by omega))
          obtain ⟨v2, hv2⟩ : ∃ v, (refIns r f S).1 = v := ⟨_, rfl⟩
          have HY := hide (ins_yes (p, zs, r) n f S wd HTd.out HOk.out (by omega) HPd.out.lows hz)
          have HY := HY.out
          dsimp only at HY
          rw [hv2] at HY
          have HY := hide HY
          have HR := HR.out
          rw [hz, hv2] at HR
          have HR := hide HR
          clear hz hv2
          go_wp2_with fail
          refine HY.out.mono ?_; rintro e w3 ⟨bn, zn, rfl, t3, o3, l3, b3⟩
          have HP3 := hide (HPd.out.below b3)
          obtain ⟨-, n1, n2, n3⟩ := HA.out.below b3
          have hbw3 : blk < w3.heap.size := Nat.lt_of_lt_of_le hbw b3.size
          have HT3 := hide (HTd.out.below b3)
          have HN3 := hide t3
          have HO3 := hide o3
          have ho3 := o3.2.2.2
          clear b3 t3 o3 HY
          go_wp2_with fail
          refine (HR.out _).mono ?_; rintro e w4 ⟨rfl, b3⟩
          have HP4 := hide (HP3.out.below b3)
          have HT4 := hide (HT3.out.below b3)
          have HN4 := hide (HN3.out.below b3)
          clear b3 HP3 HT3 HN3 HR
          have hzn : zn.length ≤ 1000 := by omega
          have hzs : zs.length ≤ 1000 := by have := HOk.out.2.2.2; dsimp only at this; omega
          have hnl : ¬ zs.length + 2 < zn.length := by omega
          have hnl2 : ¬ (zs.length : Int) + 2 < (zn.length : Int) := by omega
          clear ho3
          go_wp2_with fail
          refine (pieces_any _ zn _ HN4.out).mono ?_; rintro e w5 ⟨rfl, b3⟩
          have HP5 := hide (HP4.out.below b3)
          have HT5 := hide (HT4.out.below b3)
          have HN5 := hide (HN4.out.below b3)
          clear b3 HP4 HT4 HN4
          go_wp2_with fail
          refine (pieces_any _ zs _ HT5.out).mono ?_; rintro e w6 ⟨rfl, b3⟩
          have HP6 := hide (HP5.out.below b3)
          have HN6 := hide (HN5.out.below b3)
          clear b3 HP5 HT5 HN5
          go_wp2_with (first
            | (at_builtin; refine wpList_own1 _ rfl _ _ 43 rfl w.heap.size (below_allocP HP6.out.2.2.2.1 _).size 25 Try.underlying43 (.pointer none) 8 info_ptrQ rfl (by decide) _ _ _ rfl (own_belowQ HP6.out.1 (below_allocP (Below.refl _ _) _)) (.pointer (some ⟨bn, 0, none⟩)) rfl ⟨w6.heap.size, 0, none⟩ 1 rfl (cn0 _ _ _) (by omega) ?_; intro vt9 w9 hown hg hm; have HP9 := hide (PT.push1 (x := (.pointer (some ⟨bn, 0, none⟩), zn, v2)) (HP6.out.below (below_allocP (Below.refl _ _) _)) (HN6.out.below (below_allocP (Below.refl _ _) _)) HO3.out hown hg); clear hown hg hm)
            | (at_builtin; refine wpList_own1 _ rfl _ _ 35 rfl w.heap.size (below_allocP HP9.out.2.2.2.1 _).size 9 Try.underlying35 (.string ⟨#[]⟩) 16 info_str rfl (by decide) _ _ _ rfl (own_belowQ HP9.out.2.1 (below_allocP (Below.refl _ _) _)) (.string v2) rfl ⟨w9.heap.size, 0, none⟩ 1 rfl (cn0 _ _ _) (by omega) ?_; intro vs9 w10 hown hg hm; have HP10 := hide (PT1.push2 (HP9.out.below (below_allocP (Below.refl _ _) _)) hown hg hm); clear hown hg hm))
          go_roundw
          case rel => exact ⟨n + 1, _, by omega, by go_num, HP10⟩
          case measure => simp [intOf]; omega
      · as_aux_lemma =>
          have HR := hide (fun w' => rins3 r f S w' (by have := HOk.out.2.2.1; have := HOk.out.size; dsimp only at *; omega) (by omega))
          obtain ⟨v2, hv2⟩ : ∃ v, (refIns r f S).1 = v := ⟨_, rfl⟩
          obtain ⟨e2, he2⟩ : ∃ e, (refIns r f S).2 = e := ⟨_, rfl⟩
          have HY := ins_no (p, zs, r) n f S wd HTd.out HOk.out (by omega) hz
          dsimp only at HY
          rw [he2] at HY hz
          have HY := hide HY
          have HR := HR.out
          rw [hv2, he2] at HR
          have HR := hide HR
          have hq : (e2 == 0) = false := by simpa using hz
          have hq2 : (e2 != 0) = true := by simpa using hz
          clear hv2 he2
          go_wp2_with fail
          refine HY.out.mono ?_; rintro e w3 ⟨rfl, rfl⟩
          go_wp2_with fail
          refine (HR.out _).mono ?_; rintro e w4 ⟨rfl, b3⟩
          have HP4 := hide (HPd.out.below b3).next
          clear b3 HR HY
          go_wp2_with fail
          go_roundw
          case rel => exact ⟨n + 1, L, by omega, by go_num, HP4⟩
          case measure => simp [intOf]; omega
    · obtain rfl : n = l.length := by omega
      as_aux_lemma =>
        clear HC HK HRD
        go_wp2_with fail
        obtain ⟨wx, rfl⟩ : ∃ q, q = wr := ⟨_, rfl⟩
        go_loopw [22] (fun i wq => ∃ j : Nat, j ≤ L.length ∧ i = .int .i64 j ∧ Hid (Below wx.heap.size wx wq)) (fun i _ => L.length - (intOf i).toNat)
        case atStart => exact ⟨0, by omega, rfl, hide (Below.refl _ _)⟩
        case round =>
          obtain ⟨j, hj, rfl, HW⟩ := hrel
          by_cases hlj : j < L.length
          · obtain ⟨g2, c2, g3, c3, e1, e2, hrd⟩ := HP.out.reads
            injection e1 with e1 _ e1c
            injection e1 with e1; injection e1 with e1 _
            injection e2 with e2 _ e2c
            injection e2 with e2; injection e2 with e2 _
            subst e1 e2 e1c e2c
            obtain ⟨⟨p, zs, r⟩, hxj⟩ : ∃ x, L[j] = x := ⟨_, rfl⟩
            have c0 := hrd j hlj
            have hT0 := HP.out.2.2.1 _ (List.getElem_mem hlj)
            rw [hxj] at c0 hT0
            dsimp only at c0
            have HK2 := hide (show _ ∧ _ from ⟨cell_below c0.1 HW.out, cell_below c0.2 HW.out⟩)
            have HTx := hide (hT0.1.below HW.out)
            have HJ := hide hT0.2.1
            have hz := hT0.2.2.2.1
            have hzl := hT0.2.2.2.2
            have hfl := full_len hT0.2.2.1
            have hsz := hT0.2.size
            dsimp only at hz hzl hfl hsz
            have hle : (zs.length : Int) ≤ (r.size : Int) := by omega
            have hnl : ¬ r.size < zs.length := by omega
            have hnl2 : ¬ (r.size : Int) < (zs.length : Int) := by omega
            have hj0 : (0 : Int) ≤ (j : Int) := by omega
            have hj1 : (j : Int) < (L.length : Int) := by omega
            have hr1 : r.size ≤ 16384 := by omega
            have hzs : zs.length ≤ 16384 := by omega
            clear c0 hT0 hrd hxj hfl hsz
            go_wp2_with fail
            go_region_held3 (fun w' => w'.cell? ⟨g, j, none⟩ = some p ∧ w'.cell? ⟨g', j, none⟩ = some (.string r) ∧ Hid (Below wr.heap.size wr w'))
              (first | exact keep2d HK2.out | exact keep2 (by assumption) hb2)
              (first
                | (go_at_call 20; refine (Same_any p zs r _ (HTx.out.below (by assumption : _ ∧ _ ∧ Hid (Below wr.heap.size wr _)).2.2.out) HJ.out (by omega) (by omega)).mono ?_; rintro e w7 ⟨rfl, hb2⟩)
                | (go_at_call 17; refine (pieces_any p zs _ (HTx.out.below (by assumption : _ ∧ _ ∧ Hid (Below wr.heap.size wr _)).2.2.out)).mono ?_; rintro e w8 ⟨rfl, hb2⟩)
                | (go_at_call 13; refine (len_same p zs r _ (HTx.out.below (by assumption : _ ∧ _ ∧ Hid (Below wr.heap.size wr _)).2.2.out) HJ.out).mono ?_; rintro e w9 ⟨rfl, hb2⟩))
            all_goals go_wp2_with fail
            all_goals go_roundw
            all_goals first
              | (rename_i hH; exact ⟨j + 1, by omega, by go_num, hide (HW.out.trans (hH.2.2.out.mono HW.out.size))⟩)
              | (simp [intOf]; omega)
          · obtain rfl : j = L.length := by omega
            have hb1 := HP.out.2.2.2.1.trans (HW.out.mono HP.out.2.2.2.1.size)
            go_wp2_with fail
            refine (put_any _).mono ?_; rintro e w4 ⟨rfl, b1⟩
            go_wp2
            go_ret
            exact ⟨rfl, hb1.trans (b1.mono hb1.size)⟩
end Go.Proofs.Ytmllbaacjodccaa
