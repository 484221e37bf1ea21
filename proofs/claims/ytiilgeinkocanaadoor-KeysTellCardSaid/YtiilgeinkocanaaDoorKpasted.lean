/- Contract of pasted of keys. -/
import Derived.Test.YtiilgeinkocanaaDoorKrow
import Derived.Test.YtiilgeinkocanaaDoorKtick
import Derived.Lib.SlBytesRow
import Derived.Deep.QuietTactic
import Derived.Deep.RegionHeld3
namespace Go.Proofs.YtiilgeinkocanaaDoor
open Go.RowKit

theorem own_bytes {W : World} {B g c : Nat} {p : ByteArray} (h : W.ownsRow B 5 1 (.slice (some ⟨g, 0, none⟩) p.size c) p.size (byteV p)) : Lib.Bytes W g 0 p := fun i hi => by
  have := World.ownsRow.cellAt h i (by omega)
  rw [Nat.zero_add, this]
  simp [byteV, hi]
  rfl
theorem byteV_app (p : ByteArray) (x : Int) (h0 : 0 ≤ x) (h1 : x ≤ 255) : byteV p ++ [.int .u8 x] = byteV (p ++ strOfNums [x]) := by
  have e : (strOfNums [x]).data.toList = [UInt8.ofNat x.toNat] := rfl
  have e2 : ((UInt8.ofNat x.toNat).toNat : Int) = x := by rw [ofNat_toNat (by omega)]; omega
  unfold byteV
  rw [ByteArray.data_append, Array.toList_append, e, List.map_append]
  simp only [List.map_cons, List.map_nil, e2]
theorem cut_no {t : ByteArray} (h : t ≠ endS) (h6 : t.size ≤ 6) : ((⟨(Lib.trimSuffix t.data.toList [27, 91, 50, 48, 49, 126]).toArray⟩ : ByteArray), Lib.hasSuffix t.data.toList [27, 91, 50, 48, 49, 126]) = (t, false) := by
  have hf : Lib.hasSuffix t.data.toList [27, 91, 50, 48, 49, 126] = false := by
    cases hb : Lib.hasSuffix t.data.toList [27, 91, 50, 48, 49, 126]
    · rfl
    · exfalso
      apply h
      unfold Lib.hasSuffix at hb
      rw [List.isSuffixOf_iff_suffix] at hb
      have e := hb.eq_of_length_le (by rw [Array.length_toList]; exact h6)
      apply ByteArray.ext
      apply Array.toList_inj.1
      rw [← e]; rfl
  rw [hf]
  unfold Lib.trimSuffix
  rw [hf]
  rfl
theorem cut_yes : ((⟨(Lib.trimSuffix endS.data.toList [27, 91, 50, 48, 49, 126]).toArray⟩ : ByteArray), Lib.hasSuffix endS.data.toList [27, 91, 50, 48, 49, 126]) = (⟨#[]⟩, true) := by decide +kernel
/-- A row of bytes has a block. -/
theorem bytes_form {W : World} {B : Nat} {v : Value} {p : ByteArray} (h : W.ownsRow B 5 1 v p.size (byteV p)) (hp : 0 < p.size) : ∃ g c, v = .slice (some ⟨g, 0, none⟩) p.size c ∧ p.size ≤ c ∧ B ≤ g ∧ g < W.heap.size ∧ ∃ cur, W.heap[g]? = some (.cells cur 5 (0, 0)) := by
  rcases h.2 with ⟨-, h0⟩ | ⟨g, c, cur, rfl, hg, hh, hc, -⟩
  · omega
  · exact ⟨g, c, rfl, hc, hg, (Array.getElem?_eq_some_iff.1 hh).1, cur, hh⟩
theorem blk_ne {W : World} {b g : Nat} {t : TypeId} {cs : List Value} {cur : Array Value} (h : Blk W b t cs) (hg : W.heap[g]? = some (.cells cur 5 (0, 0))) (ht : t ≠ 5) : g ≠ b := by
  intro e
  subst e
  rw [show W.heap[g]? = _ from h] at hg
  injection hg with hg
  injection hg with _ hg _
  exact ht hg
theorem cut_call_no (T : ByteArray) (W : World) (h : T ≠ endS) (h6 : T.size ≤ 6) : Calls Tryd.prog 45 #[.string T, .string endS] W fun e w' => e = .returned (.tuple #[.string T, .bool false]) ∧ w' = W := by
  have := Tryd.strings_CutSuffix T endS W (by omega)
  have e := cut_no h h6
  injection e with e1 e2
  rw [show endS.data.toList = [27, 91, 50, 48, 49, 126] from rfl, e1, e2] at this
  exact this
theorem cut_call_yes (W : World) : Calls Tryd.prog 45 #[.string endS, .string endS] W fun e w' => e = .returned (.tuple #[.string ⟨#[]⟩, .bool true]) ∧ w' = W := by
  refine (Tryd.strings_CutSuffix endS endS W (by decide)).mono ?_
  rintro e w' ⟨rfl, h⟩
  have e := cut_yes
  refine ⟨?_, h⟩
  rw [show (Lib.trimSuffix endS.data.toList endS.data.toList) = [] from by decide +kernel, show Lib.hasSuffix endS.data.toList endS.data.toList = true from by decide +kernel]
theorem past_world {D q n c g : Nat} {F : List Nat} {p P : ByteArray} {v : Value} {w w2 : World} {o : Obj} {cD : Value}
    (hF : F = [D, q] ∧ v = .slice none 0 0 ∧ p.size = 0 ∨ ∃ g n c, F = [D, q, g] ∧ v = .slice (some ⟨g, 0, none⟩) n c) (hD : Blk w D 46 [cD]) (hq : Blk w q 70 [v]) (hown : w.ownsRow 0 5 1 v p.size (byteV p))
    (hgrow : (w.alloc o).grownBy w2 v.ownBlock) (hown' : w2.ownsRow 0 5 1 (.slice (some ⟨g, 0, none⟩) n c) P.size (byteV P)) (hnew : ∀ k, (Value.slice (some ⟨g, 0, none⟩) n c).ownBlock = some k → v.ownBlock = some k ∨ (w.alloc o).heap.size ≤ k) :
    Ex F w (w2.setCell ⟨q, 0, none⟩ (.slice (some ⟨g, 0, none⟩) n c)) ∧ Blk (w2.setCell ⟨q, 0, none⟩ (.slice (some ⟨g, 0, none⟩) n c)) D 46 [cD] ∧ Blk (w2.setCell ⟨q, 0, none⟩ (.slice (some ⟨g, 0, none⟩) n c)) q 70 [.slice (some ⟨g, 0, none⟩) n c] ∧
      (w2.setCell ⟨q, 0, none⟩ (.slice (some ⟨g, 0, none⟩) n c)).ownsRow 0 5 1 (.slice (some ⟨g, 0, none⟩) n c) P.size (byteV P) ∧ (g ∈ F ∨ w.heap.size ≤ g) := by
  have hqF : q ∈ F := by rcases hF with ⟨rfl, -⟩ | ⟨g, n, c, rfl, -⟩ <;> simp
  have hvF : ∀ k, v.ownBlock = some k → k ∈ F := by
    intro k hk
    rcases hF with ⟨-, rfl, -⟩ | ⟨g, n, c, rfl, rfl⟩
    · cases hk
    · have e2 : some g = some k := hk
      injection e2 with e2
      simp [e2]
  have hvt : ∀ k, v.ownBlock = some k → ∃ cur, w.heap[k]? = some (.cells cur 5 (0, 0)) := by
    intro k hk
    rcases hown.2 with ⟨rfl, -⟩ | ⟨g', cap, cur, rfl, hg, hh, r⟩
    · cases hk
    · have e2 : some g' = some k := hk
      injection e2 with e2
      exact ⟨cur, by rw [← e2]; exact hh⟩
  have hvq : v.ownBlock ≠ some q := fun e => by obtain ⟨cur, h⟩ := hvt q e; exact blk_ne hq h (by decide) rfl
  have hvD : v.ownBlock ≠ some D := fun e => by obtain ⟨cur, h⟩ := hvt D e; exact blk_ne hD h (by decide) rfl
  have hDq : D ≠ q := by
    rintro rfl
    have := hD.symm.trans hq
    simp at this
  have hq2 : Blk w2 q 70 [v] := (hq.alloc o).keep hgrow hvq
  have hD2 : Blk w2 D 46 [cD] := (hD.alloc o).keep hgrow hvD
  refine ⟨⟨hgrow.os, hgrow.tape, hgrow.output, by have := hgrow.size; simp [World.setCell] at this ⊢; omega, fun k hk hn => ?_⟩, hD2.far (Ne.symm hDq) _, hq2.set 0 _, ?_, ?_⟩
  · have hkq : k ≠ q := fun e => hn (e ▸ hqF)
    refine (Below.heap_setCell _ _ _ _ (fun e => hkq e)).trans ((hgrow.block k (by simp; omega) (fun e => hn (hvF k e.symm))).trans (Below.heap_alloc _ _ _ hk))
  · refine ⟨hown'.1, ?_⟩
    rcases hown'.2 with ⟨h, -⟩ | ⟨g', cap, cur, e, hg, hh, r⟩
    · cases h
    · refine .inr ⟨g', cap, cur, e, hg, (Below.heap_setCell _ _ _ _ (fun e => ?_)).trans hh, r⟩
      exact blk_ne hq2 hh (by decide) e
  · rcases hnew g rfl with h | h
    · exact .inl (hvF g h)
    · simp at h; right; omega
/-- What stays where a paste goes on. -/
theorem past_on {D q n c g : Nat} {F : List Nat} {P : ByteArray} {w W : World} (hqF : D ∈ F ∧ q ∈ F) (hx : Ex F w W) (hD : Blk W D 46 [.iface 53 (.pointer (some ⟨q, 0, none⟩))]) (hq : Blk W q 70 [.slice (some ⟨g, 0, none⟩) n c])
    (hown : W.ownsRow 0 5 1 (.slice (some ⟨g, 0, none⟩) n c) P.size (byteV P)) (hg : g ∈ F ∨ w.heap.size ≤ g) (m : Nat) : FPost D F ((true, P), []) w (.returned (.slice none 0 0)) (W.drewN m) := by
  refine ⟨_, rfl, OwnK.nil _ _, fun _ => rfl, ⟨[D, q, g], .inr ⟨rfl, q, _, .inr ⟨g, n, c, rfl, rfl⟩, hD.drewN m, hq.drewN m, hown⟩, ?_⟩, hx.os, hx.tape, hx.output, hx.size, hx.block⟩
  intro k hk
  simp only [List.mem_cons, List.not_mem_nil, or_false] at hk
  rcases hk with rfl | rfl | rfl
  · exact .inl hqF.1
  · exact .inl hqF.2
  · exact hg
/-- What stays where it has ended. -/
theorem past_off {D : Nat} {F : List Nat} {w W : World} {c v : Value} {L : List Ky} (hDF : D ∈ F) (hx : Ex F w W) (hD : Blk W D 46 [c]) (ho : OwnK W w.heap.size v L) (hn : L ≠ []) :
    FPost D F ((false, ⟨#[]⟩), L) w (.returned v) (W.setCell ⟨D, 0, none⟩ (.iface 9 (.string ⟨#[]⟩))) :=
  ⟨v, rfl, ho.off hD decKey _ _, fun h => absurd h hn, ⟨[D], .inl ⟨rfl, rfl, hD.set 0 _⟩, fun k hk => .inl (by rw [List.mem_singleton.1 hk]; exact hDF)⟩, hx.trans (Ex.set W D 0 _) (fun x hx => .inl (by rw [List.mem_singleton.1 hx]; exact hDF))⟩
set_option maxRecDepth 100000 in
set_option maxHeartbeats 2000000 in
theorem pasted_any (D q : Nat) (F : List Nat) (p : ByteArray) (x : Int) (v : Value) (w : World) (hU : UTabs w) (hT : WTabs w) (h0 : 0 ≤ x) (h1 : x ≤ 255) (hs : ∀ k ∈ F, SafeB k) (hz : p.size ≤ 1000000)
    (hF : F = [D, q] ∧ v = .slice none 0 0 ∧ p.size = 0 ∨ ∃ g n c, F = [D, q, g] ∧ v = .slice (some ⟨g, 0, none⟩) n c) (hD : Blk w D 46 [.iface 53 (.pointer (some ⟨q, 0, none⟩))]) (hq : Blk w q 70 [v]) (hown : w.ownsRow 0 5 1 v p.size (byteV p)) :
    Calls Tryd.prog 24 #[.pointer (some ⟨D, 0, none⟩), .pointer (some ⟨q, 0, none⟩), .int .u8 x] w (FPost D F (pasteK p x) w) := by
  have hq0 := hq.cell (i := 0) rfl
  have HDF := hide (show D ∈ F ∧ q ∈ F by rcases hF with ⟨rfl, -⟩ | ⟨g, n, c, rfl, -⟩ <;> simp)
  have HPW := hide (fun (w2 : World) (o : Obj) (P : ByteArray) (n c g : Nat) h1 h2 h3 => past_world (o := o) (w2 := w2) (P := P) (n := n) (c := c) (g := g) hF hD hq hown h1 h2 h3)
  have HTAB := hide (fun W (hW : Ex F w W) => (⟨utabs_ex hU hW hs, wtabs_ex hT hW hs⟩ : UTabs W ∧ WTabs W))
  have hvq : v.ownBlock ≠ some q := fun e => by
    rcases hown.2 with ⟨rfl, -⟩ | ⟨g', cap, cur, rfl, hg, hh, r⟩
    · cases e
    · have e2 : some g' = some q := e
      injection e2 with e2
      exact blk_ne hq hh (by decide) e2
  have HQ := hide (fun (w2 : World) (o : Obj) (hgrow : (w.alloc o).grownBy w2 v.ownBlock) => (show Blk w2 q 70 [v] from (hq.alloc o).keep hgrow hvq))
  have HOWN := hide hown
  obtain ⟨n, hn⟩ : ∃ n, n = p.size + 1 := ⟨_, rfl⟩
  obtain ⟨P, hP⟩ : ∃ P, P = p ++ strOfNums [x] := ⟨_, rfl⟩
  have HPS := hide (show P.size = n by rw [hP, hn, join_size, one_size])
  have HBV := hide (show byteV p ++ [.int .u8 x] = byteV P by rw [hP]; exact byteV_app p x h0 h1)
  have hn1 : 1 ≤ n := by omega
  have hn2 : n ≤ 1000001 := by omega
  have HN := hide hn
  have HR := hide (show pasteK p x = if 6 ≤ n ∧ P.extract (n - 6) n = endS then ((false, ⟨#[]⟩), [⟨15, 0, cleanK (P.extract 0 (n - 6))⟩]) else ((true, P), []) by unfold pasteK; rw [← hP, HPS.out])
  clear hP hn hF hD hq hown hU hT hs hvq
  go_enter Tryd.func24, Tryd.ntmps24
  go_wp2_with (at_builtin; refine wpList_row _ rfl _ _ rfl 0 (Nat.zero_le _) _ _ _ w.heap.size _ rfl rfl (HOWN.out.alloc _) ((Blk.new w 5 [.int .u8 x]).cell (i := 0) rfl) rfl (by omega) ?_; intro v' w2 hown' hgrow hnew; replace hown' : w2.ownsRow 0 5 1 v' P.size (byteV P) := (by rw [← HBV.out, HPS.out, HN.out]; exact hown'); replace hgrow : (w.alloc (.cells #[.int .u8 x] 5)).grownBy w2 v.ownBlock := hgrow; obtain ⟨g', c', hv', hc', -, -, -⟩ := bytes_form hown' (by rw [HPS.out]; omega); rw [HPS.out] at hv' hc'; subst hv'; have hq2 := HQ.out _ _ hgrow; have d1 := hq2.cell (i := 0) rfl; have f1 := hq2.frozen 0; have H3 := hide (HPW.out _ _ _ _ _ _ hgrow hown' hnew); clear hown' hgrow hnew hq2)
  obtain ⟨w3, hw3⟩ : ∃ w3, w2.setCell ⟨q, 0, none⟩ (.slice (some ⟨g', 0, none⟩) n c') = w3 := ⟨_, rfl⟩
  rw [hw3] at H3 ⊢
  have hq3 : w3.cell? ⟨q, 0, none⟩ = some (.slice (some ⟨g', 0, none⟩) n c') := H3.out.2.2.1.cell (i := 0) rfl
  have HB3 := hide (show Lib.Bytes w3 g' 0 P from by have h := H3.out.2.2.2.1; rw [← HPS.out] at h; exact own_bytes h)
  clear hw3 d1 f1 hq0
  by_cases h6 : 6 ≤ n
  · obtain ⟨m, hm⟩ : ∃ m, m = n - 6 := ⟨_, rfl⟩
    have m2 : max ((n : Int) - 6) 0 = (m : Int) := by omega
    have m3 : (n : Int) - 6 = (m : Int) := by omega
    have m4 : n = m + 6 := by omega
    have hcv : ∀ k, (convert 34 9 (.slice (some ⟨g', m, none⟩) 6 (c' - m))).run Tryd.prog (w3.drewN k) = .ok (.string (P.extract m n)) (w3.drewN k) := by
      intro k
      have := Lib.run_convert_window (P := Tryd.prog) (w3.drewN k) 34 5 9 Tryd.underlying34 Tryd.underlying5 Tryd.underlying9 g' 0 P (HB3.out.drewN k) m 6 (c' - m) (by rw [HPS.out]; omega)
      rw [Nat.zero_add, ← m4] at this
      exact this
    by_cases hE : P.extract m n = endS
    · rw [hE] at hcv
      have HCUT := hide (fun W => cut_call_yes W)
      have HE := hide (show pasteK p x = ((false, ⟨#[]⟩), [⟨15, 0, cleanK (P.extract 0 m)⟩]) by rw [HR.out, ← hm, if_pos ⟨h6, hE⟩])
      have HSM := hide (show (P.extract 0 m).size ≤ 1048576 by rw [ByteArray.size_extract]; omega)
      have hc0 : ∀ W, Lib.Bytes W g' 0 P → (convert 34 9 (.slice (some ⟨g', 0, none⟩) m c')).run Tryd.prog W = .ok (.string (P.extract 0 m)) W := by
        intro W hW
        have := Lib.run_convert_window (P := Tryd.prog) W 34 5 9 Tryd.underlying34 Tryd.underlying5 Tryd.underlying9 g' 0 P hW 0 m c' (by rw [HPS.out]; omega)
        simpa using this
      have HC0 := hide hc0
      clear HR hE hc0 hm
      obtain ⟨S, hS⟩ : ∃ S, P.extract 0 m = S := ⟨_, rfl⟩
      rw [hS] at HC0 HE HSM
      clear hS
      subst m4
      go_quiet (first | (go_at_call 45; refine Calls.quiet_of_same (HCUT.out _)))
      go_wp2_with fail
      obtain ⟨W4, hW4⟩ : ∃ W4, w3.drewN nq = W4 := ⟨_, rfl⟩
      have hq4 : W4.cell? ⟨q, 0, none⟩ = some (.slice (some ⟨g', 0, none⟩) (m + 6) c') := by rw [← hW4]; exact hq3
      have hcv4 : (convert 34 9 (.slice (some ⟨g', 0, none⟩) m c')).run Tryd.prog W4.drew = .ok (.string S) W4.drew := HC0.out _ (by rw [← hW4]; exact HB3.out.drewN (nq + 1))
      have HX4 := hide (show Ex F w W4.drew by rw [← hW4]; exact ⟨H3.out.1.os, H3.out.1.tape, H3.out.1.output, H3.out.1.size, H3.out.1.block⟩)
      have HD4 := hide (show Blk W4.drew D 46 [.iface 53 (.pointer (some ⟨q, 0, none⟩))] by rw [← hW4]; exact H3.out.2.1)
      rw [hW4]
      clear hW4 hcv hq3 m2 m3
      obtain ⟨N, hN9⟩ : ∃ N, m + 6 = N := ⟨_, rfl⟩
      have s1 : IntKind.i64.wrap ((N : Int) - 6) = (m : Int) := by rw [Go.wrap_small _ (by omega) (by omega)]; omega
      have s2 : m ≤ N := by omega
      have s3 : m ≤ c' := by omega
      have s4 : (m : Int) ≤ (c' : Int) := by omega
      have s5 : (m : Int) ≤ (N : Int) := by omega
      rw [hN9] at hq4 ⊢
      clear hN9
      go_region_with (first
        | (go_at_call 46; refine (clean_any S _ HSM.out (HTAB.out _ HX4.out).1 (HTAB.out _ HX4.out).2).mono ?_; rintro e w5 ⟨rfl, hb5⟩; have HX5 := hide (ex_below HX4.out hb5); have HD5 := hide (HD4.out.below hb5); clear hb5)
        | (go_at_call 39; refine (done_any D _ _ _ (HD5.out.alloc _)).mono ?_; rintro e w6 ⟨rfl, rfl⟩)
        | fail)
      all_goals go_wp2_with fail
      all_goals go_ret
      all_goals (rw [HE.out]; exact past_off HDF.out.1 (ex_alloc HX5.out _) (HD5.out.alloc _) (OwnK.lit (k := ⟨15, 0, cleanK S⟩) HX5.out.size (World.alloc_heap_new _ _)) (by simp))
    · have HCUT := hide (fun W => cut_call_no (P.extract m n) W hE (by rw [ByteArray.size_extract]; omega))
      have HE := hide (show pasteK p x = ((true, P), []) by rw [HR.out, ← hm, if_neg (fun h => hE h.2)])
      clear HR hE
      obtain ⟨T, hT⟩ : ∃ T, P.extract m n = T := ⟨_, rfl⟩
      rw [hT] at hcv HCUT
      clear hT hm
      subst m4
      go_quiet (first | (go_at_call 45; refine Calls.quiet_of_same (HCUT.out _)))
      go_wp2_with fail
      go_ret
      rw [HE.out]
      exact past_on HDF.out H3.out.1 H3.out.2.1 H3.out.2.2.1 H3.out.2.2.2.1 H3.out.2.2.2.2 _
  · have m2 : max ((n : Int) - 6) 0 = 0 := by omega
    have hcv : ∀ k, (convert 34 9 (.slice (some ⟨g', 0, none⟩) n c')).run Tryd.prog (w3.drewN k) = .ok (.string P) (w3.drewN k) := by
      intro k
      have := Lib.run_convert_whole (P := Tryd.prog) (w3.drewN k) 34 5 9 Tryd.underlying34 Tryd.underlying5 Tryd.underlying9 g' 0 P (HB3.out.drewN k) c'
      rwa [HPS.out] at this
    have HCUT := hide (fun W => cut_call_no P W (fun e => h6 (by rw [← HPS.out, e]; decide)) (by rw [HPS.out]; omega))
    have HE := hide (show pasteK p x = ((true, P), []) by rw [HR.out, if_neg (fun h => h6 h.1)])
    clear HR
    go_quiet (first | (go_at_call 45; refine Calls.quiet_of_same (HCUT.out _)))
    go_wp2_with fail
    go_ret
    rw [HE.out]
    exact past_on HDF.out H3.out.1 H3.out.2.1 H3.out.2.2.1 H3.out.2.2.2.1 H3.out.2.2.2.2 _
end Go.Proofs.YtiilgeinkocanaaDoor
