/- Contracts of (*Undo).step, both ways, and of Do within a group. -/
import Derived.Test.YtgpcpfohfoeclaaUdo
namespace Go.Proofs.Ytgpcpfohfoeclaa
open Go.RowKit

theorem Step_core {B b : Nat} {cur y : Nat × Int × ByteArray} {ws gone : List (Nat × Int × ByteArray)} {w V w' W : World} {gv v9 : Value} {gw ow cw : Nat} (h0 : B ≤ b) (hB : B ≤ w.heap.size)
    (hrw : Row w B (.slice (some ⟨gw, ow, none⟩) (ws.length + 1) cw) (ws ++ [y])) (hrg : Row w B gv gone) (hdis : gv.ownBlock ≠ some gw) (hut : Typed w b 57) (hb : Below w.heap.size w V) (hg : V.grownBy w' gv.ownBlock)
    (hr9 : Row w' B v9 (gone ++ [cur])) (ho9 : ∀ k, v9.ownBlock = some k → gv.ownBlock = some k ∨ V.heap.size ≤ k) (hs : w'.grownBy W (some b)) :
    Row W B (.slice (some ⟨gw, ow, none⟩) ws.length cw) ws ∧ Row W B v9 (gone ++ [cur]) ∧ v9.ownBlock ≠ some gw ∧ Kept w W ∧ Below B w W := by
  obtain ⟨hk1, hb1⟩ := grown_ends hB h0 hut hb hrg hg hs
  have t1 := hut.below hb
  have t2 : Typed w' b 57 := t1.grown hg (fun e => t1.ne ((hrg.below hb).ownT b e.symm) (by decide) rfl)
  have hsz := hb.size
  have hgw : gw < w.heap.size := by
    obtain ⟨c, fz, hh⟩ := hrw.ownT gw rfl
    exact (Array.getElem?_eq_some_iff.1 hh).1
  have e1 : (ws ++ [y]).length = ws.length + 1 := by simp
  have hcut := Row.cut (L := ws ++ [y]) ws.length (by omega) (by rw [e1]; exact hrw)
  rw [List.take_append_of_le_length (Nat.le_refl _), List.take_length] at hcut
  refine ⟨?_, ?_, ?_, hk1, hb1⟩
  · refine ((hcut.below hb).same hg.size fun k e => hg.block k ?_ ?_).same hs.size fun k e => hs.block k ?_ ?_
    · obtain rfl : gw = k := by have e9 : some gw = some k := e; injection e9
      omega
    · obtain rfl : gw = k := by have e9 : some gw = some k := e; injection e9
      exact fun e => hdis e.symm
    · obtain rfl : gw = k := by have e9 : some gw = some k := e; injection e9
      exact Nat.lt_of_lt_of_le hgw (Nat.le_trans hsz hg.size)
    · obtain rfl : gw = k := by have e9 : some gw = some k := e; injection e9
      intro e; injection e with e; subst e
      exact hut.ne (hrw.ownT _ rfl) (by decide) rfl
  · refine hr9.same hs.size fun k e => ?_
    have hT := hr9.ownT k e
    exact hs.block k (by obtain ⟨c, fz, hh⟩ := hT; exact (Array.getElem?_eq_some_iff.1 hh).1) (fun e => by injection e with e; subst e; exact t2.ne hT (by decide) rfl)
  · intro e
    rcases ho9 gw e with h | h
    · exact hdis h
    · omega
theorem row_last {W : World} {B g off cap : Nat} {ws : List (Nat × Int × ByteArray)} {y : Nat × Int × ByteArray} (h : Row W B (.slice (some ⟨g, off, none⟩) (ws.length + 1) cap) (ws ++ [y])) :
    W.cell? ⟨g, off + ws.length * 2, none⟩ = some (.pointer (some ⟨y.1, 0, none⟩)) ∧ W.cell? ⟨g, off + ws.length * 2 + 1, none⟩ = some (.int .i64 y.2.1) ∧ ws.length + 1 ≤ cap := by
  rcases h with ⟨e, _⟩ | ⟨g', off', cap', e, hg, hty, hl, h1, h2, h3, h4, h5⟩
  · cases e
  · injection e with e1 e2 e3
    injection e1 with e1
    injection e1 with e1 e4
    subst e1 e4 e3
    have hfl := flat_len ws
    have e1 : (ws ++ [y]).length = ws.length + 1 := by simp
    refine ⟨h5 _ _ ?_, ?_, by omega⟩
    · rw [flat_snoc, List.getElem?_append_right (by omega), hfl, Nat.sub_self]; rfl
    · have := h5 (ws.length * 2 + 1) (.int .i64 y.2.1) (by rw [flat_snoc, List.getElem?_append_right (by omega), hfl, Nat.add_sub_cancel_left]; rfl)
      rw [← Nat.add_assoc] at this; exact this
theorem ends_drewN {B b : Nat} {x : Nat × Int × ByteArray} {A G : List (Nat × Int × ByteArray)} {o' : Int} {w W : World} (n : Nat) (h : Und W B b x A G o' ∧ Kept w W ∧ Below B w W) : Und (W.drewN n) B b x A G o' ∧ Kept w (W.drewN n) ∧ Below B w (W.drewN n) := by
  have hb : Below W.heap.size W (W.drewN n) := below_drewNu (Below.refl _ _) n
  exact ⟨h.1.below hb, h.2.1.trans (Kept.of_below hb), below_drewNu h.2.2 n⟩

theorem StepU_end {B b : Nat} {cur y : Nat × Int × ByteArray} {ws gone : List (Nat × Int × ByteArray)} {w V w' W : World} {gv v9 : Value} {gw ow cw : Nat} (h0 : B ≤ b) (hB : B ≤ w.heap.size) (h1 : Texts w (cur :: ((ws ++ [y]) ++ gone)))
    (hrw : Row w B (.slice (some ⟨gw, ow, none⟩) (ws.length + 1) cw) (ws ++ [y])) (hrg : Row w B gv gone) (hdis : gv.ownBlock ≠ some gw) (hut : Typed w b 57) (hb : Below w.heap.size w V) (hg : V.grownBy w' gv.ownBlock)
    (hr9 : Row w' B v9 (gone ++ [cur])) (ho9 : ∀ k, v9.ownBlock = some k → gv.ownBlock = some k ∨ V.heap.size ≤ k)
    (hU : UAt W b (.pointer (some ⟨y.1, 0, none⟩)) y.2.1 (.slice (some ⟨gw, ow, none⟩) ws.length cw) v9 0) (hs : w'.grownBy W (some b)) :
    Und W B b y ws (gone ++ [cur]) 0 ∧ Kept w W ∧ Below B w W := by
  obtain ⟨ha, hc, hd, hk, hB1⟩ := Step_core h0 hB hrw hrg hdis hut hb hg hr9 ho9 hs
  refine ⟨⟨h0, fun z hz => (h1 z ?_).kept hk, _, _, hU, ha, hc, fun k e e2 => ?_⟩, hk, hB1⟩
  · simp only [List.mem_cons, List.mem_append, List.not_mem_nil, or_false] at hz ⊢
    rcases hz with h | h | h | h <;> simp [h]
  · have e9 : some gw = some k := e; injection e9 with e9; subst e9; exact hd e2

theorem stepU_none (b : Nat) (t : Value) (c : Int) (A : Option Addr) (k : Nat) (ov : Value) (o : Int) (w : World) (h : UAt w b t c (.slice A 0 k) ov o) :
    Calls Try.prog 25 #[.pointer (some ⟨b, 0, none⟩), .pointer (some ⟨b, 2, none⟩), .pointer (some ⟨b, 3, none⟩)] w fun e w' => e = .returned (.tuple #[.pointer none, .int .i64 0, .bool false]) ∧ w = w' := by
  obtain ⟨ut, u0, u1, u2, u3, u4, uf⟩ := h
  go_enter Try.func25, Try.ntmps25
  go_wp2
  go_ret3
  exact ⟨rfl, rfl⟩

attribute [local go_sem] cell_same in
set_option maxHeartbeats 2000000 in
theorem stepU_any (B b : Nat) (cur y : Nat × Int × ByteArray) (ws tos : List (Nat × Int × ByteArray)) (o : Int) (w : World) (h : Und w B b cur (ws ++ [y]) tos o) (hB : B ≤ w.heap.size) (hl : ws.length ≤ 1000) (hl2 : tos.length ≤ 1000) :
    Calls Try.prog 25 #[.pointer (some ⟨b, 0, none⟩), .pointer (some ⟨b, 2, none⟩), .pointer (some ⟨b, 3, none⟩)] w fun e w' => e = .returned (.tuple #[.pointer (some ⟨y.1, 0, none⟩), .int .i64 y.2.1, .bool true]) ∧ Und w' B b y ws (tos ++ [cur]) 0 ∧ Kept w w' ∧ Below B w w' := by
  obtain ⟨h0, h1, wv, gv, h2, h3, h4, h5⟩ := h
  obtain ⟨gw, ow, cw, rfl⟩ := h3.slice ws.length (by simp)
  have HU := hide h2
  have HF := hide h3
  have HT := hide h4
  have hdis : gv.ownBlock ≠ some gw := h5 gw rfl
  have HD := hide hdis
  obtain ⟨ut, u0, u1, u2, u3, u4, uf⟩ := h2
  have ul := World.block_lt_of_cell? _ _ u0
  have hbg : ¬ b = gw := ut.ne (h3.ownT gw rfl) (by decide)
  have hgb : ¬ gw = b := fun e => hbg e.symm
  have hcap := (row_last h3).2.2
  have HA := hide (new_pair w cur.1 cur.2.1)
  have hwA : Below w.heap.size w (w.alloc (.cells #[.pointer (some ⟨cur.1, 0, none⟩), .int .i64 cur.2.1] 54)).drew := below_drewNu ((Below.refl _ _).alloc (Nat.le_refl _) _) 1
  have HRA := hide (HT.out.below hwA)
  have HRF := hide (HF.out.below hwA)
  have HBA := hide hwA
  have HBs := hide (Nat.le_trans hB hwA.size)
  have hglt : gw < (w.alloc (.cells #[.pointer (some ⟨cur.1, 0, none⟩), .int .i64 cur.2.1] 54)).drew.heap.size := by
    obtain ⟨c, fz, hh⟩ := HRF.out.ownT gw rfl
    exact (Array.getElem?_eq_some_iff.1 hh).1
  have HGL := hide hglt
  have HB0 := hide hB
  have H1 := hide h1
  clear hwA h3 h4 hB hdis h5 hglt h1
  go_enter Try.func25, Try.ntmps25
  go_wp2
  all_goals go_region_law (refine step_row rfl (.tmp 20) (.tmp 25) rfl gv tos B (by simp [Act.eval, Act.put]) HRA.out HBs.out (by omega) cur ⟨w.heap.size, 0, none⟩ (by simp [Act.eval, Act.put]) HA.out ?_; intro v' w' hr9 hg9 ho9; obtain ⟨g9, o9, c9, ev9⟩ := hr9.slice tos.length (by simp); have HE9 := hide ev9; rw [ev9] at hr9 ho9 ⊢; clear ev9; have HG9 := hide hg9; have HR9 := hide hr9; have HO9 := hide ho9; have hrf9 := HRF.out.same hg9.size (fun k e => by obtain rfl : gw = k := (by have e9 : some gw = some k := e; injection e9); exact hg9.block gw HGL.out (fun e => HD.out e.symm)); clear hr9 hg9 ho9; obtain ⟨r0, r1, -⟩ := row_last hrf9; clear hrf9; have HUw := hide (HU.out.grown HBA.out HG9.out HT.out); obtain ⟨ut', u0', u1', u2', u3', u4', uf'⟩ := HUw.out)
  all_goals go_wp2
  all_goals go_region
  all_goals go_wp2
  all_goals go_quiet (fail)
  all_goals go_wp2
  all_goals go_ret3
  all_goals exact ⟨rfl, ends_drewN _ (ends_drew (StepU_end h0 HB0.out H1.out HF.out HT.out HD.out HU.out.1 HBA.out HG9.out HR9.out HO9.out
    (((((HUw.out.set3 _).set0 _).cursor _).set2 _).set4 _)
    (((((grown_setCell _ _ _ _).trans (grown_setCell _ _ _ _)).trans (grown_setCell _ _ _ _)).trans (grown_setCell _ _ _ _)).trans (grown_setCell _ _ _ _))))⟩

theorem StepR_end {B b : Nat} {cur y : Nat × Int × ByteArray} {ws gone : List (Nat × Int × ByteArray)} {w V w' W : World} {gv v9 : Value} {gw ow cw : Nat} (h0 : B ≤ b) (hB : B ≤ w.heap.size) (h1 : Texts w (cur :: (gone ++ (ws ++ [y]))))
    (hrw : Row w B (.slice (some ⟨gw, ow, none⟩) (ws.length + 1) cw) (ws ++ [y])) (hrg : Row w B gv gone) (hdis : gv.ownBlock ≠ some gw) (hut : Typed w b 57) (hb : Below w.heap.size w V) (hg : V.grownBy w' gv.ownBlock)
    (hr9 : Row w' B v9 (gone ++ [cur])) (ho9 : ∀ k, v9.ownBlock = some k → gv.ownBlock = some k ∨ V.heap.size ≤ k)
    (hU : UAt W b (.pointer (some ⟨y.1, 0, none⟩)) y.2.1 v9 (.slice (some ⟨gw, ow, none⟩) ws.length cw) 0) (hs : w'.grownBy W (some b)) :
    Und W B b y (gone ++ [cur]) ws 0 ∧ Kept w W ∧ Below B w W := by
  obtain ⟨ha, hc, hd, hk, hB1⟩ := Step_core h0 hB hrw hrg hdis hut hb hg hr9 ho9 hs
  refine ⟨⟨h0, fun z hz => (h1 z ?_).kept hk, _, _, hU, hc, ha, fun k e e2 => ?_⟩, hk, hB1⟩
  · simp only [List.mem_cons, List.mem_append, List.not_mem_nil, or_false] at hz ⊢
    rcases hz with h | (h | h) | h <;> simp [h]
  · have e9 : some gw = some k := e2; injection e9 with e9; subst e9; exact hd e

theorem stepR_none (b : Nat) (t : Value) (c : Int) (A : Option Addr) (k : Nat) (ov : Value) (o : Int) (w : World) (h : UAt w b t c ov (.slice A 0 k) o) :
    Calls Try.prog 25 #[.pointer (some ⟨b, 0, none⟩), .pointer (some ⟨b, 3, none⟩), .pointer (some ⟨b, 2, none⟩)] w fun e w' => e = .returned (.tuple #[.pointer none, .int .i64 0, .bool false]) ∧ w = w' := by
  obtain ⟨ut, u0, u1, u2, u3, u4, uf⟩ := h
  go_enter Try.func25, Try.ntmps25
  go_wp2
  go_ret3
  exact ⟨rfl, rfl⟩

attribute [local go_sem] cell_same in
set_option maxHeartbeats 2000000 in
theorem stepR_any (B b : Nat) (cur y : Nat × Int × ByteArray) (ws tos : List (Nat × Int × ByteArray)) (o : Int) (w : World) (h : Und w B b cur tos (ws ++ [y]) o) (hB : B ≤ w.heap.size) (hl : ws.length ≤ 1000) (hl2 : tos.length ≤ 1000) :
    Calls Try.prog 25 #[.pointer (some ⟨b, 0, none⟩), .pointer (some ⟨b, 3, none⟩), .pointer (some ⟨b, 2, none⟩)] w fun e w' => e = .returned (.tuple #[.pointer (some ⟨y.1, 0, none⟩), .int .i64 y.2.1, .bool true]) ∧ Und w' B b y (tos ++ [cur]) ws 0 ∧ Kept w w' ∧ Below B w w' := by
  obtain ⟨h0, h1, gv, wv, h2, h4, h3, h5⟩ := h
  obtain ⟨gw, ow, cw, rfl⟩ := h3.slice ws.length (by simp)
  have HU := hide h2
  have HF := hide h3
  have HT := hide h4
  have hdis : gv.ownBlock ≠ some gw := fun e => h5 gw e rfl
  have HD := hide hdis
  obtain ⟨ut, u0, u1, u2, u3, u4, uf⟩ := h2
  have ul := World.block_lt_of_cell? _ _ u0
  have hbg : ¬ b = gw := ut.ne (h3.ownT gw rfl) (by decide)
  have hgb : ¬ gw = b := fun e => hbg e.symm
  have hcap := (row_last h3).2.2
  have HA := hide (new_pair w cur.1 cur.2.1)
  have hwA : Below w.heap.size w (w.alloc (.cells #[.pointer (some ⟨cur.1, 0, none⟩), .int .i64 cur.2.1] 54)).drew := below_drewNu ((Below.refl _ _).alloc (Nat.le_refl _) _) 1
  have HRA := hide (HT.out.below hwA)
  have HRF := hide (HF.out.below hwA)
  have HBA := hide hwA
  have HBs := hide (Nat.le_trans hB hwA.size)
  have hglt : gw < (w.alloc (.cells #[.pointer (some ⟨cur.1, 0, none⟩), .int .i64 cur.2.1] 54)).drew.heap.size := by
    obtain ⟨c, fz, hh⟩ := HRF.out.ownT gw rfl
    exact (Array.getElem?_eq_some_iff.1 hh).1
  have HGL := hide hglt
  have HB0 := hide hB
  have H1 := hide h1
  clear hwA h3 h4 hB hdis h5 hglt h1
  go_enter Try.func25, Try.ntmps25
  go_wp2
  all_goals go_region_law (refine step_row rfl (.tmp 20) (.tmp 25) rfl gv tos B (by simp [Act.eval, Act.put]) HRA.out HBs.out (by omega) cur ⟨w.heap.size, 0, none⟩ (by simp [Act.eval, Act.put]) HA.out ?_; intro v' w' hr9 hg9 ho9; obtain ⟨g9, o9, c9, ev9⟩ := hr9.slice tos.length (by simp); have HE9 := hide ev9; rw [ev9] at hr9 ho9 ⊢; clear ev9; have HG9 := hide hg9; have HR9 := hide hr9; have HO9 := hide ho9; have hrf9 := HRF.out.same hg9.size (fun k e => by obtain rfl : gw = k := (by have e9 : some gw = some k := e; injection e9); exact hg9.block gw HGL.out (fun e => HD.out e.symm)); clear hr9 hg9 ho9; obtain ⟨r0, r1, -⟩ := row_last hrf9; clear hrf9; have HUw := hide (HU.out.grown HBA.out HG9.out HT.out); obtain ⟨ut', u0', u1', u2', u3', u4', uf'⟩ := HUw.out)
  all_goals go_wp2
  all_goals go_region
  all_goals go_wp2
  all_goals go_quiet (fail)
  all_goals go_wp2
  all_goals go_ret3
  all_goals exact ⟨rfl, ends_drewN _ (ends_drew (StepR_end h0 HB0.out H1.out HF.out HT.out HD.out HU.out.1 HBA.out HG9.out HR9.out HO9.out
    (((((HUw.out.set2 _).set0 _).cursor _).set3 _).set4 _)
    (((((grown_setCell _ _ _ _).trans (grown_setCell _ _ _ _)).trans (grown_setCell _ _ _ _)).trans (grown_setCell _ _ _ _)).trans (grown_setCell _ _ _ _))))⟩
end Go.Proofs.Ytgpcpfohfoeclaa
