/- limnerlaw10.Ref, limnerref10.Deep, limnerlaw10.many. A node that is shown is read. Plain. What is read may be; how deep it is, how many nodes it has. What is shown is long enough. Plain. RegsSet: what is read of two bytes. Plain. limnerlaw10.Ref. The document's bracket. The document's bracket. -/
import Derived.Test.YtfamoikmfbpigaaDoorZ4
import Derived.Test.YtfamoikmfbpigaaDoorZ2
import Derived.Test.YtfamoikmfbpigaaDoorZ3
namespace Go.Proofs.YtfamoikmfbpigaaDoor
open Go.RowKit

mutual
def deepE : Nd → Nat
  | .mk _ _ L => deepL L + 1
def deepL : List Nd → Nat
  | [] => 0
  | x :: l => max (deepE x) (deepL l)
end
theorem deepL_app : ∀ (l m : List Nd), deepL (l ++ m) = max (deepL l) (deepL m)
  | [], m => by simp [deepL]
  | x :: l, m => by rw [List.cons_append, deepL, deepL, deepL_app l m]; omega
theorem deepL_step {L : List Nd} {j : Nat} {x : Nd} (h : L[j]? = some x) : deepL (L.take (j + 1)) = max (deepL (L.take j)) (deepE x) := by
  rw [List.take_add_one, h, deepL_app]
  simp [deepL]
mutual
theorem deep_sz : ∀ (n : Nd), deepE n ≤ szN n
  | .mk _ _ L => by rw [deepE, szN]; have := deepL_sz L; omega
theorem deepL_sz : ∀ (L : List Nd), deepL L ≤ szL L
  | [] => by simp [deepL, szL]
  | x :: l => by rw [deepL, szL]; have := deep_sz x; have := deepL_sz l; omega
end
def NatP (k : Nat) (w : World) (e : Ending) (w' : World) : Prop := e = .returned (.int .i64 (k : Int)) ∧ Below w.heap.size w w'
theorem NatP.mk {k : Nat} {x : Int} {w w' : World} {e : Ending} (h : x = (k : Int)) (he : e = .returned (.int .i64 x)) (hb : Below w.heap.size w w') : NatP k w e w' := ⟨by rw [← h]; exact he, hb⟩
set_option maxHeartbeats 4000000 in
set_option maxRecDepth 100000 in
theorem deep_any : ∀ (f : Nat) (n : Nd) (cs : List Value) (P : Nat → Prop) (w : World), szN n < f → szN n ≤ 1000000 → NdX P w n cs →
    Calls Tryd.prog 32 #[.agg cs.toArray] w (NatP (deepE n) w)
  | 0, _, _, _, _, hf, _, _ => absurd hf (by omega)
  | f + 1, .mk k S L, cs, P, w, hf, hsz, hn => by
    obtain ⟨x0, x1, x2, x3, A, cap, rfl, rfl, hw, hc, hcm, hkids⟩ := hn.parts
    have IH := hide (fun (n : Nd) (cs : List Value) (W : World) (h1 : szN n < f) (h0 : szN n ≤ 1000000) (h2 : NdX P W n cs) => deep_any f n cs P W h1 h0 h2)
    have HK := hide hkids
    obtain ⟨m, hm0⟩ : ∃ m, L.length = m := ⟨_, rfl⟩
    have HM := hide hm0
    have hsl : szL L < 1000000 := by unfold szN at hsz; omega
    have HSL := hide hsl
    have HF := hide (show szL L < f by unfold szN at hf; omega)
    have HB0 := hide (show Below w.heap.size w (w.alloc (.cells (ndL k [x0, x1, x2, x3] (.slice A m cap)).toArray 33)) from (Below.refl _ _).alloc (Nat.le_refl _) _)
    have HBL := hide (Blk.new w 33 (ndL k [x0, x1, x2, x3] (.slice A m cap)))
    have HD := hide (show deepE (.mk k [x0, x1, x2, x3] L) = deepL L + 1 from by rw [deepE])
    rw [hm0] at hc ⊢
    clear hn hkids hw hf hm0 hsz hsl
    unfold maxLen at hcm
    rw [show (ndL k [x0, x1, x2, x3] (.slice A m cap)).toArray = #[.int .i64 k, .int .u64 (x0 : Int), .int .u64 (x1 : Int), .int .u64 (x2 : Int), .int .u64 (x3 : Int), .slice A m cap] from rfl]
    go_enter Tryd.func32, Tryd.ntmps32
    go_wp2
    rw [show w.alloc (.cells #[.int .i64 k, .int .u64 (x0 : Int), .int .u64 (x1 : Int), .int .u64 (x2 : Int), .int .u64 (x3 : Int), .slice A m cap] 33) = w.alloc (.cells (ndL k [x0, x1, x2, x3] (.slice A m cap)).toArray 33) from rfl]
    obtain ⟨W0, hW0⟩ : ∃ W, w.alloc (.cells (ndL k [x0, x1, x2, x3] (.slice A m cap)).toArray 33) = W := ⟨_, rfl⟩
    rw [hW0] at HBL HB0 ⊢
    clear hW0
    go_loopw [3, 4] (fun kv iv wr => ∃ j t : Nat, iv = .int .i64 j ∧ kv = .int .i64 (t : Int) ∧ j ≤ m ∧ t ≤ 1000000 ∧ Hid (deepL (L.take j) = t) ∧ Hid (Blk wr w.heap.size 33 (ndL k [x0, x1, x2, x3] (.slice A m cap))) ∧ Hid (Below w.heap.size w wr)) (fun _ iv _ => m - (intOf iv).toNat)
    case atStart => exact ⟨0, 0, rfl, rfl, by omega, by omega, hide (by simp [deepL]), HBL, HB0⟩
    case round =>
      clear HBL HB0
      obtain ⟨j, t, rfl, rfl, hj, ht, HT, HX, HB⟩ := hrel
      have a5 := HX.out.cell (i := 5) rfl
      by_cases hlt : j < m
      · obtain ⟨x, hx⟩ : ∃ x, L[j]? = some x := ⟨_, List.getElem?_eq_getElem (by rw [HM.out]; exact hlt)⟩
        obtain ⟨b, o, cx, rfl, hb, -, hcx, hnx⟩ := HK.out.get j x hx
        obtain ⟨kx, u0, u1, u2, u3, Ax, mx, capx, rfl, -, -⟩ := hnx.form
        have HCX := hide (fun (W : World) (hW : Below w.heap.size w W) i u (hu : (ndL kx [u0, u1, u2, u3] (.slice Ax mx capx))[i]? = some u) => show W.cell? ⟨b, o + j * 6 + i, none⟩ = some u from (hW.cell (p := ⟨b, o + j * 6 + i, none⟩) hb.2).trans (by have := hcx i u hu; rw [Nat.zero_add] at this; exact this))
        have hsx0 := szL_at hx
        have hsx : szN x < f := Nat.lt_of_le_of_lt hsx0 HF.out
        have hsx1 : szN x ≤ 1000000 := by have := HSL.out; omega
        have HI := hide (fun (W : World) (hW : Below w.heap.size w W) => IH.out x _ W hsx hsx1 (hnx.low hW))
        have HST := hide (deepL_step hx)
        obtain ⟨dx, hdx⟩ : ∃ d, deepE x = d := ⟨_, rfl⟩
        have hdb : dx ≤ 1000000 := by rw [← hdx]; exact Nat.le_trans (deep_sz x) hsx1
        rw [hdx] at HI HST
        clear hx hcx hnx hsx hsx0 hsx1 hdx
        have c0 : wr.cell? ⟨b, o + j * 6, none⟩ = some (.int .i64 kx) := HCX.out wr HB.out 0 _ rfl
        have c1 := HCX.out wr HB.out 1 _ rfl
        have c2 := HCX.out wr HB.out 2 _ rfl
        have c3 := HCX.out wr HB.out 3 _ rfl
        have c4 := HCX.out wr HB.out 4 _ rfl
        have c5 := HCX.out wr HB.out 5 _ rfl
        have hj0 : (0 : Int) ≤ (j : Int) := by omega
        have hj1 : (j : Int) < (m : Int) := by omega
        go_wp2_with fail
        refine (HI.out _ HB.out).mono ?_; rintro e w9 ⟨rfl, hb9⟩
        have HX9 := hide (HX.out.below hb9)
        have HB9 := hide (HB.out.trans (hb9.mono HB.out.size))
        clear hb9 HX HB HI a5 c0 c1 c2 c3 c4 c5
        go_wp2
        go_roundw
        case rel => exact ⟨j + 1, max t dx, by go_num, by congr 1; omega, by omega, by omega, hide (by rw [HST.out, HT.out]), HX9, HB9⟩
        case measure => simp [intOf]; omega
      · obtain rfl : j = m := by omega
        have HR := hide (show deepE (.mk k [x0, x1, x2, x3] L) = t + 1 by rw [HD.out, ← HT.out, List.take_of_length_le (by rw [HM.out]; exact Nat.le_refl _)])
        go_wp2
        go_ret
        exact NatP.mk (by rw [HR.out]; omega) rfl HB.out
end Go.Proofs.YtfamoikmfbpigaaDoor
namespace Go.Proofs.YtfamoikmfbpigaaDoor
open Go.RowKit

/-- Signs behind one, over lists. -/
def sgL : Nd → List UInt8 → Nd × List UInt8
  | n, [] => (n, [])
  | n, c :: t => if 0 < sgn c.toNat then sgL (.mk (sgn c.toNat) noSet [n]) t else (n, c :: t)
theorem signs_list : ∀ (t : List UInt8) (n : Nd) (f : Nat), t.length ≤ f → signsE f n (bl t) = ((sgL n t).1, bl (sgL n t).2)
  | [], n, 0, _ => rfl
  | [], n, f + 1, _ => by
    rw [signsE, if_neg (by rw [nextB_nil]; decide)]; rfl
  | c :: t, n, 0, h => absurd h (by simp)
  | c :: t, n, f + 1, h => by
    rw [signsE, nextB_cons, sgL]
    by_cases hs : 0 < sgn c.toNat
    · rw [if_pos hs, if_pos hs, bl_tail, signs_list t _ f (by simpa using h)]
    · rw [if_neg hs, if_neg hs]
def PieceOk (R : ByteArray → Option (Nd × ByteArray)) (n : Nd) (txt : List UInt8) : Prop := ∀ r, ∃ a t, atomE R (bl (txt ++ r)) = some (a, bl t) ∧ sgL a t = sgL n r
def HeadOk (txt : List UInt8) : Prop := ∃ c t, txt = c :: t ∧ headOk c
/-- What stands behind a row. -/
def Stop (r : List UInt8) : Prop := r = [] ∨ (∃ t, r = 41 :: t) ∨ ∃ t, r = 124 :: t
/-- What stands behind a piece. -/
def NoSign (r : List UInt8) : Prop := ∀ n, sgL n r = (n, r)
theorem Stop.no {r : List UInt8} (h : Stop r) : NoSign r := by
  intro n
  rcases h with rfl | ⟨t, rfl⟩ | ⟨t, rfl⟩
  · rfl
  · rw [sgL, if_neg (by decide)]
  · rw [sgL, if_neg (by decide)]
theorem HeadOk.no {txt : List UInt8} (h : HeadOk txt) (r : List UInt8) : NoSign (txt ++ r) := by
  intro n
  obtain ⟨c, t, rfl, h1, h2, h3, h4, h5, h6⟩ := h
  rw [List.cons_append, sgL, if_neg]
  unfold sgn
  rw [if_neg h4, if_neg h5, if_neg h6]
  omega
theorem PieceOk.piece {R : ByteArray → Option (Nd × ByteArray)} {n : Nd} {txt r : List UInt8} (h : PieceOk R n txt) (hr : NoSign r) : pieceE R (bl (txt ++ r)) = some (n, bl r) := by
  obtain ⟨a, t, h1, h2⟩ := h r
  unfold pieceE
  rw [h1]
  dsimp only
  rw [signs_list t a _ (by rw [bl_size]; exact Nat.le_refl _), h2, hr n]
theorem PieceOk.sign {R : ByteArray → Option (Nd × ByteArray)} {n : Nd} {txt : List UInt8} (h : PieceOk R n txt) (c : UInt8) (k : Nat) (hk : sgn c.toNat = k) (h0 : 0 < k) : PieceOk R (.mk (k : Int) noSet [n]) (txt ++ [c]) := by
  intro r
  obtain ⟨a, t, h1, h2⟩ := h (c :: r)
  refine ⟨a, t, by rw [List.append_assoc]; exact h1, ?_⟩
  rw [h2, sgL, if_pos (by omega), hk]
theorem PieceOk.wrap {R : ByteArray → Option (Nd × ByteArray)} {n : Nd} {txt : List UInt8} (h : ∀ t, R (bl (txt ++ 41 :: t)) = some (n, bl (41 :: t))) : PieceOk R n (40 :: (txt ++ [41])) := by
  intro r
  refine ⟨n, r, ?_, rfl⟩
  unfold atomE
  rw [show 40 :: (txt ++ [41]) ++ r = 40 :: (txt ++ 41 :: r) by simp, tk_cons]
  dsimp only
  rw [if_pos (by decide), h r]
  dsimp only
  rw [if_pos (isB_yes (by decide)), bl_tail]
mutual
def wN : Nd → Prop
  | .mk _ S L => W64 S ∧ wL L
def wL : List Nd → Prop
  | [] => True
  | x :: l => wN x ∧ wL l
end
theorem wL_mem : ∀ {L : List Nd} {x : Nd}, wL L → x ∈ L → wN x
  | y :: l, x, h, hx => by
    rw [wL] at h
    rcases List.mem_cons.1 hx with rfl | hx
    · exact h.1
    · exact wL_mem h.2 hx
theorem deepL_mem : ∀ {L : List Nd} {x : Nd}, x ∈ L → deepE x ≤ deepL L
  | y :: l, x, hx => by
    rw [deepL]
    rcases List.mem_cons.1 hx with rfl | hx
    · omega
    · have := deepL_mem hx; omega
theorem szL_mem : ∀ {L : List Nd} {x : Nd}, x ∈ L → szN x ≤ szL L
  | y :: l, x, hx => by
    rw [szL]
    rcases List.mem_cons.1 hx with rfl | hx
    · omega
    · have := szL_mem hx; omega
theorem rmayL_mem {L : List Nd} {x : Nd} (h : rmayL L = true) (hx : x ∈ L) : rmayE x = true := by
  rw [rmayL_all, List.all_eq_true] at h
  exact h x hx
theorem shape_ways {k : Int} {S : List Nat} {L : List Nd} (h : shapeB k S L.length = true) : (k = 0 ∧ L = [] ∧ S = noSet) ∨ (k = 1 ∧ L = []) ∨ ((k = 2 ∨ k = 3) ∧ 2 ≤ L.length ∧ S = noSet) ∨ ((k = 4 ∨ k = 5 ∨ k = 6) ∧ (∃ x, L = [x]) ∧ S = noSet) := by
  unfold shapeB at h
  rw [Bool.and_eq_true, Bool.or_eq_true, beq_iff_eq, beq_iff_eq] at h
  obtain ⟨h1, h2⟩ := h
  by_cases k01 : k = 0 ∨ k = 1
  · rw [if_pos k01, beq_iff_eq, List.length_eq_zero_iff] at h1
    rcases k01 with rfl | rfl
    · exact .inl ⟨rfl, h1, h2.resolve_left (by omega)⟩
    · exact .inr (.inl ⟨rfl, h1⟩)
  · rw [if_neg k01] at h1
    have hS : S = noSet := h2.resolve_left (by omega)
    by_cases k23 : k = 2 ∨ k = 3
    · rw [if_pos k23, decide_eq_true_eq] at h1
      exact .inr (.inr (.inl ⟨k23, h1, hS⟩))
    · rw [if_neg k23] at h1
      by_cases k46 : 4 ≤ k ∧ k ≤ 6
      · rw [if_pos k46, beq_iff_eq, List.length_eq_one_iff] at h1
        exact .inr (.inr (.inr ⟨by omega, h1, hS⟩))
      · rw [if_neg k46] at h1; cases h1
theorem spans_head {S : List Nat} : HeadOk (spansE S) := by
  have hok : RunsOk (scR S 0) := scanR_ok S _ _
  unfold spansE
  by_cases h0 : manyR (scR S 0) = 0
  · rw [if_pos h0]; exact ⟨91, _, rfl, by decide, by decide, by decide, by decide, by decide, by decide⟩
  · rw [if_neg h0]
    by_cases h1 : manyR (scR S 0) = 1
    · rw [if_pos h1]
      obtain ⟨b, hb, e⟩ := many1 hok h1
      obtain ⟨c, t, e1, h, -⟩ := shown_head b hb
      rw [e]
      exact ⟨c, t, by simp [spanT, e1], h⟩
    · rw [if_neg h1]; exact ⟨91, _, rfl, by decide, by decide, by decide, by decide, by decide, by decide⟩
theorem par_head (t : List UInt8) : HeadOk (40 :: t) := ⟨40, t, rfl, by decide, by decide, by decide, by decide, by decide, by decide⟩
theorem HeadOk.more {t : List UInt8} (h : HeadOk t) (r : List UInt8) : HeadOk (t ++ r) := by
  obtain ⟨c, u, rfl, h⟩ := h
  exact ⟨c, u ++ r, rfl, h⟩
theorem HeadOk.pos {t : List UInt8} (h : HeadOk t) : 1 ≤ t.length := by
  obtain ⟨c, u, rfl, h⟩ := h
  simp
/-- What a rule's reader answers of what is shown. -/
def ReadsR (R : ByteArray → Option (Nd × ByteArray)) (f : Nat) : Prop := (∀ t, R (bl (41 :: t)) = some (.mk 0 noSet [], bl (41 :: t))) ∧ ∀ x, deepE x ≤ f → rmayE x = true → wN x → ∀ t, R (bl (showE x ++ 41 :: t)) = some (x, bl (41 :: t))
theorem no_wrap {k : Int} {x : Nd} (h : ¬ wrapB k x = true) : kdN x ≠ 3 ∧ (k ≠ 3 → kdN x ≠ 2) := by
  unfold wrapB at h
  refine ⟨fun e => h (by rw [e]; rfl), fun hk e => h (by rw [e]; simp [hk])⟩
theorem piece_ok {R : ByteArray → Option (Nd × ByteArray)} {f : Nat} (HR : ReadsR R f) : ∀ (g : Nat) (n : Nd), szN n ≤ g → deepE n ≤ f + 1 → rmayE n = true → wN n → kdN n ≠ 2 → kdN n ≠ 3 → PieceOk R n (showE n) ∧ HeadOk (showE n)
  | 0, n, hg, _, _, _, _, _ => by cases n; rw [szN] at hg; omega
  | g + 1, .mk k S L, hg, hd, hm, hw, h2, h3 => by
    rw [rmayE, Bool.and_eq_true] at hm
    rw [wN] at hw
    rw [szN] at hg
    rw [deepE] at hd
    have h2' : k ≠ 2 := h2
    have h3' : k ≠ 3 := h3
    rcases shape_ways hm.1 with ⟨rfl, rfl, rfl⟩ | ⟨rfl, rfl⟩ | ⟨h, _⟩ | ⟨hk, ⟨x, rfl⟩, rfl⟩
    · rw [show showE (.mk 0 noSet []) = [40, 41] from by simp [showE]]
      refine ⟨fun r => ⟨_, r, ?_, rfl⟩, par_head _⟩
      unfold atomE
      rw [show [40, 41] ++ r = 40 :: 41 :: r from rfl, tk_cons]
      dsimp only
      rw [if_pos (by decide), HR.1 r]
      dsimp only
      rw [if_pos (isB_yes (by decide)), bl_tail]
    · rw [show showE (.mk 1 S []) = spansE S from by simp [showE]]
      exact ⟨fun r => ⟨_, r, atom_set R hw.1 r, rfl⟩, spans_head⟩
    · omega
    · have hx : PieceOk R x (kidE k x (showE x)) ∧ HeadOk (kidE k x (showE x)) := by
        have hm2 := rmayL_mem hm.2 (x := x) (by simp)
        have hw2 := wL_mem hw.2 (x := x) (by simp)
        have hd2 := deepL_mem (L := [x]) (x := x) (by simp)
        unfold kidE
        by_cases hwr : wrapB k x = true
        · rw [if_pos hwr]
          exact ⟨PieceOk.wrap (HR.2 x (by omega) hm2 hw2), par_head _⟩
        · rw [if_neg hwr]
          obtain ⟨n3, n2⟩ := no_wrap hwr
          exact piece_ok HR g x (by rw [szL] at hg; omega) (by omega) hm2 hw2 (n2 h3') n3
      rcases hk with rfl | rfl | rfl
      · rw [show showE (.mk 4 noSet [x]) = kidE 4 x (showE x) ++ [42] from by simp [showE, kidsE]]
        exact ⟨hx.1.sign 42 4 (by decide) (by omega), hx.2.more _⟩
      · rw [show showE (.mk 5 noSet [x]) = kidE 5 x (showE x) ++ [43] from by simp [showE, kidsE]]
        exact ⟨hx.1.sign 43 5 (by decide) (by omega), hx.2.more _⟩
      · rw [show showE (.mk 6 noSet [x]) = kidE 6 x (showE x) ++ [63] from by simp [showE, kidsE]]
        exact ⟨hx.1.sign 63 6 (by decide) (by omega), hx.2.more _⟩
/-- A kid's text, as a piece. -/
theorem kid_ok {R : ByteArray → Option (Nd × ByteArray)} {f : Nat} (HR : ReadsR R f) (k : Int) (hk : k ≠ 3) (x : Nd) (hd : deepE x ≤ f) (hm : rmayE x = true) (hw : wN x) : PieceOk R x (kidE k x (showE x)) ∧ HeadOk (kidE k x (showE x)) := by
  unfold kidE
  by_cases hwr : wrapB k x = true
  · rw [if_pos hwr]
    exact ⟨PieceOk.wrap (HR.2 x hd hm hw), par_head _⟩
  · rw [if_neg hwr]
    obtain ⟨n3, n2⟩ := no_wrap hwr
    exact piece_ok HR _ x (Nat.le_refl _) (by omega) hm hw (n2 hk) n3
def RowOk (R : ByteArray → Option (Nd × ByteArray)) (n : Nd) (txt : List UInt8) : Prop := ∀ r, Stop r → rowE R (bl (txt ++ r)) = some (n, bl r)
theorem stop_cond {r : List UInt8} (h : Stop r) : (bl r).size = 0 ∨ nextB (bl r) = 124 ∨ nextB (bl r) = 41 := by
  rcases h with rfl | ⟨t, rfl⟩ | ⟨t, rfl⟩
  · exact .inl rfl
  · exact .inr (.inr (by rw [nextB_cons]; rfl))
  · exact .inr (.inl (by rw [nextB_cons]; rfl))
theorem head_cond {txt : List UInt8} (h : HeadOk txt) (r : List UInt8) : ¬ ((bl (txt ++ r)).size = 0 ∨ nextB (bl (txt ++ r)) = 124 ∨ nextB (bl (txt ++ r)) = 41) := by
  obtain ⟨c, t, rfl, h1, h2, h3, -⟩ := h
  rw [List.cons_append, nextB_cons, bl_size]
  simp
  exact ⟨h3, h1⟩
theorem row_run {R : ByteArray → Option (Nd × ByteArray)} {r : List UInt8} (hr : Stop r) : ∀ (L : List (Nd × List UInt8)) (l : List Nd) (f : Nat), (∀ p ∈ L, PieceOk R p.1 p.2 ∧ HeadOk p.2) → L.length < f → rowL R f l (bl ((L.map (·.2)).flatten ++ r)) = some (l ++ L.map (·.1), bl r)
  | [], l, f, _, hf => by
    obtain ⟨f, rfl⟩ : ∃ g, f = g + 1 := ⟨f - 1, by simp at hf; omega⟩
    show rowL R (f + 1) l (bl r) = _
    rw [rowL, if_pos (stop_cond hr)]; simp
  | p :: L, l, f, h, hf => by
    obtain ⟨f, rfl⟩ : ∃ g, f = g + 1 := ⟨f - 1, by simp at hf; omega⟩
    obtain ⟨hp, hh⟩ := h p (by simp)
    have ht : ((p :: L).map (·.2)).flatten ++ r = p.2 ++ ((L.map (·.2)).flatten ++ r) := by simp
    have hn : NoSign ((L.map (·.2)).flatten ++ r) := by
      cases L with
      | nil => exact hr.no
      | cons q L =>
        have := (h q (by simp)).2.no ((L.map (·.2)).flatten ++ r)
        rwa [show ((q :: L).map (·.2)).flatten ++ r = q.2 ++ ((L.map (·.2)).flatten ++ r) by simp]
    rw [rowL, ht, if_neg (head_cond hh _), hp.piece hn]
    dsimp only
    rw [row_run hr L (l ++ [p.1]) f (fun q hq => h q (by simp [hq])) (by simp at hf; omega)]
    simp
theorem flat_ge : ∀ L : List (Nd × List UInt8), (∀ p ∈ L, HeadOk p.2) → L.length ≤ ((L.map (·.2)).flatten).length
  | [], _ => by simp
  | p :: L, h => by
    have h1 := (h p (by simp)).pos
    have h2 := flat_ge L (fun q hq => h q (by simp [hq]))
    rw [List.map_cons, List.flatten_cons, List.length_append, List.length_cons]; omega
theorem row_one {R : ByteArray → Option (Nd × ByteArray)} {n : Nd} {txt : List UInt8} (h : PieceOk R n txt) (hh : HeadOk txt) : RowOk R n txt := by
  intro r hr
  unfold rowE
  have := row_run (R := R) hr [(n, txt)] [] ((bl (txt ++ r)).size + 1) (fun p hp => by simp at hp; subst hp; exact ⟨h, hh⟩) (by have := hh.pos; rw [bl_size, List.length_append]; simp; omega)
  rw [show ([(n, txt)].map (·.2)).flatten ++ r = txt ++ r by simp] at this
  rw [this]; rfl
theorem row_cat {R : ByteArray → Option (Nd × ByteArray)} {L : List Nd} {g : Nd → List UInt8} (h2 : 2 ≤ L.length) (h : ∀ x ∈ L, PieceOk R x (g x) ∧ HeadOk (g x)) : RowOk R (.mk 2 noSet L) (L.map g).flatten := by
  intro r hr
  unfold rowE
  have hp : ∀ p ∈ L.map (fun x => (x, g x)), PieceOk R p.1 p.2 ∧ HeadOk p.2 := fun p hp => by
    obtain ⟨x, hx, rfl⟩ := List.mem_map.1 hp
    exact h x hx
  have hl := flat_ge (L.map (fun x => (x, g x))) (fun p q => (hp p q).2)
  have := row_run (R := R) hr (L.map (fun x => (x, g x))) [] ((bl ((L.map g).flatten ++ r)).size + 1) hp (by
    rw [List.map_map] at hl
    rw [bl_size, List.length_append]
    have e : ((fun p : Nd × List UInt8 => p.2) ∘ fun x => (x, g x)) = g := rfl
    rw [e] at hl
    omega)
  rw [List.map_map, List.map_map, show ((fun p : Nd × List UInt8 => p.2) ∘ fun x => (x, g x)) = g from rfl, show ((fun p : Nd × List UInt8 => p.1) ∘ fun x => (x, g x)) = id from rfl, List.map_id, List.nil_append] at this
  rw [this]
  match L, h2 with
  | x :: y :: l, _ => rfl
theorem row_ok {R : ByteArray → Option (Nd × ByteArray)} {f : Nat} (HR : ReadsR R f) : ∀ (n : Nd), deepE n ≤ f + 1 → rmayE n = true → wN n → kdN n ≠ 3 → RowOk R n (showE n) ∧ HeadOk (showE n)
  | .mk k S L, hd, hm, hw, h3 => by
    by_cases hk : k = 2
    · subst hk
      rw [rmayE, Bool.and_eq_true] at hm
      rw [wN] at hw
      rw [deepE] at hd
      rcases shape_ways hm.1 with ⟨h, -⟩ | ⟨h, -⟩ | ⟨-, h2, rfl⟩ | ⟨h, -⟩
      · omega
      · omega
      · rw [show showE (.mk 2 noSet L) = (kidsE 2 L).flatten from by simp [showE], kidsE_map]
        have hall : ∀ x ∈ L, PieceOk R x (kidE 2 x (showE x)) ∧ HeadOk (kidE 2 x (showE x)) := fun x hx => kid_ok HR 2 (by omega) x (by have := deepL_mem hx; omega) (rmayL_mem hm.2 hx) (wL_mem hw.2 hx)
        refine ⟨row_cat h2 hall, ?_⟩
        match L, h2 with
        | x :: y :: l, _ => rw [List.map_cons, List.flatten_cons]; exact (hall x (by simp)).2.more _
      · omega
    · obtain ⟨h1, h2⟩ := piece_ok HR _ (.mk k S L) (Nat.le_refl _) hd hm hw hk h3
      exact ⟨row_one h1 h2, h2⟩
/-- A kid's text, as a row. -/
theorem altkid_ok {R : ByteArray → Option (Nd × ByteArray)} {f : Nat} (HR : ReadsR R f) (x : Nd) (hd : deepE x ≤ f) (hm : rmayE x = true) (hw : wN x) : RowOk R x (kidE 3 x (showE x)) ∧ HeadOk (kidE 3 x (showE x)) := by
  unfold kidE
  by_cases hwr : wrapB 3 x = true
  · rw [if_pos hwr]
    exact ⟨row_one (PieceOk.wrap (HR.2 x hd hm hw)) (par_head _), par_head _⟩
  · rw [if_neg hwr]
    exact row_ok HR x (by omega) hm hw (no_wrap hwr).1
/-- Where a rule ends. -/
def End0 (r : List UInt8) : Prop := r = [] ∨ ∃ t, r = 41 :: t
theorem End0.stop {r : List UInt8} (h : End0 r) : Stop r := h.elim .inl fun h => .inr (.inl h)
theorem End0.no {r : List UInt8} (h : End0 r) : isB (bl r) 124 = false := by
  rcases h with rfl | ⟨t, rfl⟩
  · rfl
  · exact isB_no (by decide)
theorem rows_run {R : ByteArray → Option (Nd × ByteArray)} {r : List UInt8} (hr : End0 r) : ∀ (L : List (Nd × List UInt8)) (l : List Nd) (f : Nat), (∀ p ∈ L, RowOk R p.1 p.2) → L.length < f → rowsL R f l (bl ((L.map fun p => 124 :: p.2).flatten ++ r)) = some (l ++ L.map (·.1), bl r)
  | [], l, f, _, hf => by
    obtain ⟨f, rfl⟩ : ∃ g, f = g + 1 := ⟨f - 1, by simp at hf; omega⟩
    show rowsL R (f + 1) l (bl r) = _
    rw [rowsL, if_neg (by rw [hr.no]; decide)]; simp
  | p :: L, l, f, h, hf => by
    obtain ⟨f, rfl⟩ : ∃ g, f = g + 1 := ⟨f - 1, by simp at hf; omega⟩
    have hp := h p (by simp)
    have ht : ((p :: L).map fun p => 124 :: p.2).flatten ++ r = 124 :: (p.2 ++ ((L.map fun p => 124 :: p.2).flatten ++ r)) := by simp
    have hn : Stop ((L.map fun p => 124 :: p.2).flatten ++ r) := by
      cases L with
      | nil => exact hr.stop
      | cons q L => exact .inr (.inr ⟨_, by simp; rfl⟩)
    rw [rowsL, ht, if_pos (isB_yes (by decide)), bl_tail, hp _ hn]
    dsimp only
    rw [rows_run hr L (l ++ [p.1]) f (fun q hq => h q (by simp [hq])) (by simp at hf; omega)]
    simp
theorem rows_one {R : ByteArray → Option (Nd × ByteArray)} {n : Nd} {txt : List UInt8} (h : RowOk R n txt) {r : List UInt8} (hr : End0 r) : rowsE1 R (bl (txt ++ r)) = some (n, bl r) := by
  unfold rowsE1
  rw [h r hr.stop]
  dsimp only
  rw [rowsL, if_neg (by rw [hr.no]; decide)]; rfl
theorem join_bars (t : List UInt8) : ∀ ts : List (List UInt8), Go.Lib.join (t :: ts) [124] = t ++ (ts.map fun u => 124 :: u).flatten := by
  intro ts
  rw [Go.Lib.join_cons]
  congr 1
theorem rows_alt {R : ByteArray → Option (Nd × ByteArray)} {L : List Nd} {g : Nd → List UInt8} (h2 : 2 ≤ L.length) (h : ∀ x ∈ L, RowOk R x (g x)) {r : List UInt8} (hr : End0 r) : rowsE1 R (bl (Go.Lib.join (L.map g) [124] ++ r)) = some (.mk 3 noSet L, bl r) := by
  match L, h2 with
  | x :: y :: l, _ =>
    have e : Go.Lib.join ((x :: y :: l).map g) [124] ++ r = g x ++ ((((y :: l).map fun x => (x, g x)).map fun p => 124 :: p.2).flatten ++ r) := by
      rw [List.map_cons, join_bars, List.append_assoc, List.map_map, List.map_map]; rfl
    unfold rowsE1
    rw [e, h x (by simp) _ (.inr (.inr ⟨_, by simp; rfl⟩))]
    dsimp only
    rw [rows_run hr ((y :: l).map fun x => (x, g x)) [x] _ (fun p hp => by obtain ⟨z, hz, rfl⟩ := List.mem_map.1 hp; exact h z (List.mem_cons_of_mem _ hz)) (by
      have key : ∀ M : List (Nd × List UInt8), M.length ≤ ((M.map fun p => 124 :: p.2).flatten).length := fun M => by
        induction M with
        | nil => simp
        | cons p M ih => rw [List.map_cons, List.flatten_cons, List.length_append, List.length_cons, List.length_cons]; omega
      have := key ((y :: l).map fun x => (x, g x))
      rw [bl_size, List.length_append]; omega)]
    dsimp only
    rw [List.map_map]
    have : ((fun p : Nd × List UInt8 => p.1) ∘ fun x => (x, g x)) = id := rfl
    rw [this, List.map_id]; rfl
theorem rows_empty {R : ByteArray → Option (Nd × ByteArray)} (r : List UInt8) (hr : End0 r) : rowsE1 R (bl r) = some (.mk 0 noSet [], bl r) := by
  have : RowOk R (.mk 0 noSet []) [] := fun r hr => by
    unfold rowE
    rw [List.nil_append, rowL, if_pos (stop_cond hr)]; rfl
  exact rows_one this hr
/-- A node, as it is shown, read. -/
theorem read_node : ∀ (f : Nat) (n : Nd), deepE n ≤ f → rmayE n = true → wN n → ∀ r, End0 r → rowsE (f + 1) (bl (showE n ++ r)) = some (n, bl r)
  | 0, n, hd, _, _, _, _ => by cases n; rw [deepE] at hd; omega
  | f + 1, .mk k S L, hd, hm, hw, r, hr => by
    have HR : ReadsR (rowsE (f + 1)) f := ⟨fun t => by rw [rowsE]; exact rows_empty _ (.inr ⟨t, rfl⟩), fun x h1 h2 h3 t => read_node f x h1 h2 h3 _ (.inr ⟨t, rfl⟩)⟩
    rw [rowsE]
    by_cases hk : k = 3
    · subst hk
      rw [rmayE, Bool.and_eq_true] at hm
      rw [wN] at hw
      rw [deepE] at hd
      rcases shape_ways hm.1 with ⟨h, -⟩ | ⟨h, -⟩ | ⟨-, h2, rfl⟩ | ⟨h, -⟩
      · omega
      · omega
      · rw [show showE (.mk 3 noSet L) = Go.Lib.join (kidsE 3 L) [124] from by simp [showE], kidsE_map]
        exact rows_alt h2 (fun x hx => (altkid_ok HR x (by have := deepL_mem hx; omega) (rmayL_mem hm.2 hx) (wL_mem hw.2 hx)).1) hr
      · omega
    · exact rows_one (row_ok HR (.mk k S L) hd hm hw hk).1 hr
end Go.Proofs.YtfamoikmfbpigaaDoor
namespace Go.Proofs.YtfamoikmfbpigaaDoor
open Go.RowKit

theorem kid_len_ge (of : Int) (x : Nd) (t : List UInt8) : t.length ≤ (kidE of x t).length := by
  unfold kidE
  split
  · simp; omega
  · exact Nat.le_refl _
theorem join_ge : ∀ ts : List (List UInt8), ts.flatten.length ≤ (Go.Lib.join ts [124]).length
  | [] => by simp
  | t :: ts => by
    rw [join_bars, List.flatten_cons, List.length_append, List.length_append]
    have key : ∀ ts : List (List UInt8), ts.flatten.length ≤ ((ts.map fun u => 124 :: u).flatten).length := fun ts => by
      induction ts with
      | nil => simp
      | cons u ts ih => rw [List.map_cons, List.flatten_cons, List.flatten_cons, List.length_append, List.length_append, List.length_cons]; omega
    have := key ts
    omega
mutual
theorem deep_len : ∀ n : Nd, rmayE n = true → deepE n ≤ (showE n).length
  | .mk k S L, h => by
    rw [rmayE, Bool.and_eq_true] at h
    have hl := deep_lens k L h.2
    rw [deepE]
    rcases shape_ways h.1 with ⟨rfl, rfl, rfl⟩ | ⟨rfl, rfl⟩ | ⟨hk, h2, rfl⟩ | ⟨hk, ⟨x, rfl⟩, rfl⟩
    · rw [show showE (.mk 0 noSet []) = [40, 41] from by simp [showE], deepL]; decide
    · rw [show showE (.mk 1 S []) = spansE S from by simp [showE], deepL]; exact (spans_head (S := S)).pos
    · rcases hk with rfl | rfl
      · rw [show showE (.mk 2 noSet L) = (kidsE 2 L).flatten from by simp [showE]]; omega
      · rw [show showE (.mk 3 noSet L) = Go.Lib.join (kidsE 3 L) [124] from by simp [showE]]
        have := join_ge (kidsE 3 L)
        omega
    · have hx : (kidsE k [x]).flatten = kidE k x (showE x) := by simp [kidsE]
      rw [hx] at hl
      simp only [List.length_cons, List.length_nil] at hl
      rcases hk with rfl | rfl | rfl
      · rw [show showE (.mk 4 noSet [x]) = kidE 4 x (showE x) ++ [42] from by simp [showE, kidsE], List.length_append]; simp; omega
      · rw [show showE (.mk 5 noSet [x]) = kidE 5 x (showE x) ++ [43] from by simp [showE, kidsE], List.length_append]; simp; omega
      · rw [show showE (.mk 6 noSet [x]) = kidE 6 x (showE x) ++ [63] from by simp [showE, kidsE], List.length_append]; simp; omega
theorem deep_lens (of : Int) : ∀ L : List Nd, rmayL L = true → deepL L + L.length ≤ (kidsE of L).flatten.length + 1 ∧ L.length ≤ (kidsE of L).flatten.length
  | [], _ => by simp [deepL, kidsE]
  | x :: l, h => by
    rw [rmayL, Bool.and_eq_true] at h
    have h1 := deep_len x h.1
    have h2 := deep_lens of l h.2
    have h3 := kid_len_ge of x (showE x)
    have h4 : 1 ≤ deepE x := by cases x; rw [deepE]; omega
    rw [deepL, kidsE, List.flatten_cons, List.length_append, List.length_cons]
    omega
end
theorem show_pos {n : Nd} (h : rmayE n = true) : 1 ≤ (showE n).length := by
  have := deep_len n h
  cases n; rw [deepE] at this; omega
theorem braL_w : ∀ (f : Nat) (b : Bool) (s : ByteArray) (S S' : List Nat) (t : ByteArray), W64 S → braL f b s S = some (S', t) → W64 S'
  | 0, _, _, _, _, _, _, h => by rw [braL] at h; cases h
  | f + 1, b, s, S, S', t, hS, h => by
    rw [braL] at h
    split at h
    · split at h
      · cases h
      · split at h
        · split at h
          · cases h
          · split at h
            · cases h
            · exact braL_w f _ _ _ _ _ (spanS_w hS _ _) h
        · exact braL_w f _ _ _ _ _ (spanS_w hS _ _) h
    · injection h with h; injection h with h1 h2
      exact h1 ▸ hS
/-- What a reader of rules answers. -/
def GoodR (R : ByteArray → Option (Nd × ByteArray)) : Prop := ∀ s n t, R s = some (n, t) → rmayE n = true ∧ wN n ∧ ∃ c, s.size = t.size + c ∧ (deepE n ≤ 2 ∨ deepE n ≤ c) ∧ szN n ≤ 2 * c + 1
def GoodP (n : Nd) (s t : ByteArray) : Prop := rmayE n = true ∧ wN n ∧ ∃ c, s.size = t.size + c ∧ 1 ≤ c ∧ deepE n ≤ c ∧ szN n + 1 ≤ 2 * c
theorem set_good (S : List Nat) (hS : W64 S) (s t : ByteArray) (h : t.size < s.size) : GoodP (.mk 1 S []) s t := by
  refine ⟨by simp [rmayE, shapeB, rmayL], by rw [wN, wL]; exact ⟨hS, trivial⟩, s.size - t.size, by omega, by omega, ?_, ?_⟩
  · rw [deepE, deepL]; omega
  · rw [szN, szL]; omega
theorem isB_pos {s : ByteArray} {b : Nat} (h : isB s b = true) : 0 < s.size := by
  unfold isB at h
  split at h
  · assumption
  · cases h
theorem tail_size (s : ByteArray) : (s.extract 1 s.size).size = s.size - 1 := by rw [ByteArray.size_extract]; omega
theorem atom_good {R : ByteArray → Option (Nd × ByteArray)} (hR : GoodR R) {s t : ByteArray} {n : Nd} (h : atomE R s = some (n, t)) : GoodP n s t := by
  have hbd := atom_bd (fun u n v hu => by obtain ⟨-, -, c, h, -⟩ := hR u n v hu; omega) h
  unfold atomE at h
  cases ht : tk s with
  | none => rw [ht] at h; cases h
  | some bt =>
    obtain ⟨b, t1⟩ := bt
    have hs := (tk_bd ht).2
    rw [ht] at h
    dsimp only at h
    split at h
    · cases hr : R t1 with
      | none => rw [hr] at h; cases h
      | some x =>
        obtain ⟨m, t2⟩ := x
        rw [hr] at h
        dsimp only at h
        split at h
        · rename_i hb
          injection h with h; injection h with h1 h2
          subst h1
          obtain ⟨g1, g2, c, g3, g4, g5⟩ := hR _ _ _ hr
          have := isB_pos hb
          have := tail_size t2
          rw [h2] at this
          exact ⟨g1, g2, c + 2, by omega, by omega, by omega, by omega⟩
        · cases h
    · split at h
      · unfold braE at h
        cases hb : braL ((skipS t1 94).size + 1) true (skipS t1 94) noSet with
        | none => rw [hb] at h; cases h
        | some x =>
          obtain ⟨S, u⟩ := x
          rw [hb] at h
          injection h with h; injection h with h1 h2
          subst h1
          exact set_good _ (cmpJ_w (braL_w _ _ _ _ _ _ noSet_w hb) _) _ _ hbd
      · split at h
        · injection h with h; injection h with h1 h2
          subst h1
          exact set_good _ (spanS_w (spanS_w noSet_w _ _) _ _) _ _ hbd
        · split at h
          · cases he : escE t1 with
            | none => rw [he] at h; cases h
            | some x =>
              obtain ⟨c, u⟩ := x
              rw [he] at h
              injection h with h; injection h with h1 h2
              subst h1
              exact set_good _ (spanS_w noSet_w _ _) _ _ hbd
          · split at h
            · cases h
            · injection h with h; injection h with h1 h2
              subst h1
              exact set_good _ (spanS_w noSet_w _ _) _ _ hbd
theorem sgn_ways {b : Nat} (h : 0 < sgn b) : sgn b = 4 ∨ sgn b = 5 ∨ sgn b = 6 := by
  unfold sgn at h ⊢
  repeat' split
  all_goals first | omega | (exfalso; simp_all)
theorem signs_good : ∀ (f : Nat) (s t : ByteArray) (n : Nd), GoodP n s t → GoodP (signsE f n t).1 s (signsE f n t).2
  | 0, _, _, _, h => h
  | f + 1, s, t, n, h => by
    rw [signsE]
    split
    · rename_i hs
      have hp := sgn_pos hs
      obtain ⟨g1, g2, c, g3, g4, g5, g6⟩ := h
      refine signs_good f s _ _ ⟨?_, ?_, c + 1, ?_, by omega, ?_, ?_⟩
      · rw [rmayE, rmayL, rmayL, g1]
        rcases sgn_ways hs with e | e | e <;> rw [e] <;> rfl
      · rw [wN, wL, wL]; exact ⟨noSet_w, g2, trivial⟩
      · rw [tail_size]; omega
      · rw [deepE, deepL, deepL]; omega
      · rw [szN, szL, szL]; omega
    · exact h
theorem piece_good {R : ByteArray → Option (Nd × ByteArray)} (hR : GoodR R) {s t : ByteArray} {n : Nd} (h : pieceE R s = some (n, t)) : GoodP n s t := by
  unfold pieceE at h
  cases ha : atomE R s with
  | none => rw [ha] at h; cases h
  | some x =>
    obtain ⟨m, u⟩ := x
    rw [ha] at h
    injection h with h
    have := signs_good u.size s u m (atom_good hR ha)
    rw [h] at this
    exact this
theorem rmayL_app : ∀ (l m : List Nd), rmayL (l ++ m) = (rmayL l && rmayL m)
  | [], m => by simp [rmayL]
  | x :: l, m => by rw [List.cons_append, rmayL, rmayL, rmayL_app l m, Bool.and_assoc]
theorem wL_app : ∀ (l m : List Nd), wL (l ++ m) ↔ wL l ∧ wL m
  | [], m => by simp [wL]
  | x :: l, m => by rw [List.cons_append, wL, wL, wL_app l m, and_assoc]
theorem szL_app : ∀ (l m : List Nd), szL (l ++ m) = szL l + szL m
  | [], m => by simp [szL]
  | x :: l, m => by rw [List.cons_append, szL, szL, szL_app l m]; omega
theorem one_good (n : Nd) : (rmayL [n] = rmayE n) ∧ (wL [n] ↔ wN n) ∧ deepL [n] = deepE n ∧ szL [n] = szN n := by
  refine ⟨by simp [rmayL], by simp [wL], by simp [deepL], by simp [szL]⟩
/-- Pieces, one behind the other. -/
theorem rowL_good {R : ByteArray → Option (Nd × ByteArray)} (hR : GoodR R) : ∀ (f : Nat) (s0 s t : ByteArray) (l l' : List Nd), (rmayL l = true ∧ wL l ∧ ∃ c, s0.size = s.size + c ∧ szL l + l.length ≤ 2 * c ∧ deepL l + l.length ≤ c + 1 ∧ l.length ≤ c) → rowL R f l s = some (l', t) →
    (rmayL l' = true ∧ wL l' ∧ ∃ c, s0.size = t.size + c ∧ szL l' + l'.length ≤ 2 * c ∧ deepL l' + l'.length ≤ c + 1 ∧ l'.length ≤ c)
  | 0, _, _, _, _, _, _, h => by rw [rowL] at h; cases h
  | f + 1, s0, s, t, l, l', hg, h => by
    rw [rowL] at h
    split at h
    · injection h with h; injection h with h1 h2
      rw [← h1, ← h2]; exact hg
    · cases hp : pieceE R s with
      | none => rw [hp] at h; cases h
      | some x =>
        obtain ⟨n, u⟩ := x
        rw [hp] at h
        dsimp only at h
        obtain ⟨p1, p2, d, p3, p4, p5, p6⟩ := piece_good hR hp
        obtain ⟨g1, g2, c, g3, g4, g5, g6⟩ := hg
        obtain ⟨o1, o2, o3, o4⟩ := one_good n
        refine rowL_good hR f s0 u t _ l' ⟨by rw [rmayL_app, g1, o1, p1]; rfl, (wL_app _ _).2 ⟨g2, o2.2 p2⟩, c + d, by omega, ?_, ?_, ?_⟩ h
        · rw [szL_app, o4, List.length_append]; simp only [List.length_cons, List.length_nil]; omega
        · rw [deepL_app, o3, List.length_append]; simp only [List.length_cons, List.length_nil]; omega
        · rw [List.length_append]; simp only [List.length_cons, List.length_nil]; omega
theorem joined_may (k : Int) (hk : k = 2 ∨ k = 3) (l : List Nd) (h1 : rmayL l = true) (h2 : wL l) : rmayE (joinedE k l) = true ∧ wN (joinedE k l) := by
  match l, h1, h2 with
  | [], _, _ => exact ⟨by simp [joinedE, rmayE, shapeB, rmayL], by rw [joinedE, wN, wL]; exact ⟨noSet_w, trivial⟩⟩
  | [x], h1, h2 => rw [joinedE]; exact ⟨by rw [← (one_good x).1]; exact h1, (one_good x).2.1.1 h2⟩
  | x :: y :: l, h1, h2 =>
    rw [joinedE, rmayE, h1, wN]
    refine ⟨?_, noSet_w, h2⟩
    rcases hk with rfl | rfl <;> simp [shapeB]
theorem row_good {R : ByteArray → Option (Nd × ByteArray)} (hR : GoodR R) {s t : ByteArray} {n : Nd} (h : rowE R s = some (n, t)) : rmayE n = true ∧ wN n ∧ ∃ c, s.size = t.size + c ∧ (deepE n ≤ 1 ∨ deepE n ≤ c) ∧ szN n ≤ 2 * c + 1 := by
  unfold rowE at h
  cases hl : rowL R (s.size + 1) [] s with
  | none => rw [hl] at h; cases h
  | some x =>
    obtain ⟨l, u⟩ := x
    rw [hl] at h
    injection h with h; injection h with h1 h2
    subst h2
    obtain ⟨g1, g2, c, g3, g4, g5, g6⟩ := rowL_good hR _ s s _ [] l ⟨rfl, by rw [wL]; trivial, 0, by omega, by simp [szL], by simp [deepL], by simp⟩ hl
    obtain ⟨m1, m2⟩ := joined_may 2 (.inl rfl) l g1 g2
    rw [h1] at m1 m2
    refine ⟨m1, m2, c, g3, ?_, ?_⟩
    · rw [← h1]
      match l, g4, g5, g6 with
      | [], _, _, _ => rw [joinedE, deepE, deepL]; omega
      | [x], _, g5, _ => rw [joinedE]; rw [(one_good x).2.2.1] at g5; simp only [List.length_cons, List.length_nil] at g5; omega
      | x :: y :: l, _, g5, _ => rw [joinedE, deepE]; simp only [List.length_cons] at g5; omega
    · rw [← h1]
      match l, g4, g5, g6 with
      | [], _, _, _ => rw [joinedE, szN, szL]; omega
      | [x], g4, _, _ => rw [joinedE]; rw [(one_good x).2.2.2] at g4; simp only [List.length_cons, List.length_nil] at g4; omega
      | x :: y :: l, g4, _, _ => rw [joinedE, szN]; simp only [List.length_cons] at g4; omega
theorem rowsL_good {R : ByteArray → Option (Nd × ByteArray)} (hR : GoodR R) : ∀ (f : Nat) (s0 s t : ByteArray) (l l' : List Nd), (rmayL l = true ∧ wL l ∧ 1 ≤ l.length ∧ ∃ c, s0.size = s.size + c ∧ szL l + l.length ≤ 2 * c + 2 ∧ (deepL l ≤ 1 ∨ deepL l + l.length ≤ c + 1) ∧ l.length ≤ c + 1) → rowsL R f l s = some (l', t) →
    (rmayL l' = true ∧ wL l' ∧ 1 ≤ l'.length ∧ ∃ c, s0.size = t.size + c ∧ szL l' + l'.length ≤ 2 * c + 2 ∧ (deepL l' ≤ 1 ∨ deepL l' + l'.length ≤ c + 1) ∧ l'.length ≤ c + 1)
  | 0, _, _, _, _, _, _, h => by rw [rowsL] at h; cases h
  | f + 1, s0, s, t, l, l', hg, h => by
    rw [rowsL] at h
    split at h
    · rename_i hb
      cases hp : rowE R (s.extract 1 s.size) with
      | none => rw [hp] at h; cases h
      | some x =>
        obtain ⟨n, u⟩ := x
        rw [hp] at h
        dsimp only at h
        obtain ⟨p1, p2, d, p3, p4, p5⟩ := row_good hR hp
        rw [tail_size] at p3
        have := isB_pos hb
        obtain ⟨g1, g2, g0, c, g3, g4, g5, g6⟩ := hg
        obtain ⟨o1, o2, o3, o4⟩ := one_good n
        refine rowsL_good hR f s0 u t _ l' ⟨by rw [rmayL_app, g1, o1, p1]; rfl, (wL_app _ _).2 ⟨g2, o2.2 p2⟩, by rw [List.length_append]; omega, c + 1 + d, by omega, ?_, ?_, ?_⟩ h
        · rw [szL_app, o4, List.length_append]; simp only [List.length_cons, List.length_nil]; omega
        · rw [deepL_app, o3, List.length_append]; simp only [List.length_cons, List.length_nil]; omega
        · rw [List.length_append]; simp only [List.length_cons, List.length_nil]; omega
    · injection h with h; injection h with h1 h2
      rw [← h1, ← h2]; exact hg
theorem rows_good {R : ByteArray → Option (Nd × ByteArray)} (hR : GoodR R) : GoodR (rowsE1 R) := by
  intro s n t h
  unfold rowsE1 at h
  cases hr : rowE R s with
  | none => rw [hr] at h; cases h
  | some x =>
    obtain ⟨m, u⟩ := x
    rw [hr] at h
    dsimp only at h
    obtain ⟨p1, p2, d, p3, p4, p5⟩ := row_good hR hr
    cases hl : rowsL R (u.size + 1) [m] u with
    | none => rw [hl] at h; cases h
    | some x =>
      obtain ⟨l, v⟩ := x
      rw [hl] at h
      injection h with h; injection h with h1 h2
      subst h2
      obtain ⟨o1, o2, o3, o4⟩ := one_good m
      obtain ⟨g1, g2, g0, c, g3, g4, g5, g6⟩ := rowsL_good hR _ s u _ [m] l ⟨by rw [o1]; exact p1, o2.2 p2, by simp, d, p3, by rw [o4]; simp; omega, by rw [o3]; simp; omega, by simp⟩ hl
      obtain ⟨m1, m2⟩ := joined_may 3 (.inr rfl) l g1 g2
      rw [h1] at m1 m2
      refine ⟨m1, m2, c, g3, ?_, ?_⟩
      · rw [← h1]
        match l, g0, g4, g5, g6 with
        | [x], _, _, g5, _ => rw [joinedE]; rw [(one_good x).2.2.1] at g5; simp only [List.length_cons, List.length_nil] at g5; omega
        | x :: y :: l, _, _, g5, _ => rw [joinedE, deepE]; simp only [List.length_cons] at g5; omega
      · rw [← h1]
        match l, g0, g4, g5, g6 with
        | [x], _, g4, _, _ => rw [joinedE]; rw [(one_good x).2.2.2] at g4; simp only [List.length_cons, List.length_nil] at g4; omega
        | x :: y :: l, _, g4, _, _ => rw [joinedE, szN]; simp only [List.length_cons] at g4; omega
theorem rowsE_good : ∀ f, GoodR (rowsE f)
  | 0 => fun s n t h => by rw [rowsE] at h; cases h
  | f + 1 => by rw [show rowsE (f + 1) = rowsE1 (rowsE f) from funext fun s => by rw [rowsE]]; exact rows_good (rowsE_good f)
/-- What Parse answers may be; as many nodes, as deep. -/
theorem parse_good (s : ByteArray) (h : (parseP s).2 = 0) : s.size ≤ 200 ∧ rmayE (parseP s).1 = true ∧ wN (parseP s).1 ∧ deepE (parseP s).1 ≤ 200 ∧ szN (parseP s).1 ≤ 401 := by
  unfold parseP at h ⊢
  split
  · rename_i h1; rw [if_pos h1] at h; cases h
  · rename_i h1
    rw [if_neg h1] at h
    cases hr : rowsE (s.size + 1) s with
    | none => rw [hr] at h; cases h
    | some x =>
      obtain ⟨n, t⟩ := x
      rw [hr] at h
      dsimp only at h ⊢
      split
      · obtain ⟨g1, g2, c, g3, g4, g5⟩ := rowsE_good _ _ _ _ hr
        exact ⟨by omega, g1, g2, by dsimp only; omega, by dsimp only; omega⟩
      · rename_i h2; rw [if_neg h2] at h; cases h
theorem parse_ways (s : ByteArray) : (parseP s).2 = 0 ∨ ((parseP s).2 = 3 ∧ 200 < s.size ∨ (parseP s).2 = 10) ∧ (parseP s).1 = .mk 0 noSet [] := by
  unfold parseP
  split
  · rename_i h; exact .inr ⟨.inl ⟨rfl, h⟩, rfl⟩
  · split
    · exact .inr ⟨.inr rfl, rfl⟩
    · split
      · exact .inl rfl
      · exact .inr ⟨.inr rfl, rfl⟩
/-- A node's text, read. -/
theorem parse_show (n : Nd) (hm : rmayE n = true) (hw : wN n) (hl : (showE n).length ≤ 200) : parseP (bl (showE n)) = (n, 0) := by
  unfold parseP
  rw [if_neg (by rw [bl_size]; omega)]
  have := read_node (showE n).length n (deep_len n hm) hm hw [] (.inl rfl)
  rw [List.append_nil] at this
  rw [bl_size, this]
  rfl
theorem parse_long_show (l : List UInt8) (h : 200 < l.length) : (parseP (bl l)).2 = 3 := by
  unfold parseP
  rw [if_pos (by rw [bl_size]; exact h)]
mutual
theorem NdX.sets {P : Nat → Prop} {W : World} : ∀ (n : Nd) (cs : List Value), NdX P W n cs → wN n
  | .mk k S L, cs, h => by
    unfold NdX at h
    obtain ⟨A, cap, -, h1, -, -, h2⟩ := h
    rw [wN]
    exact ⟨h1, NdsX.sets L A 0 h2⟩
theorem NdsX.sets {P : Nat → Prop} {W : World} : ∀ (L : List Nd) (A : Option Addr) (j : Nat), NdsX P W L A j → wL L
  | [], _, _, _ => by rw [wL]; trivial
  | x :: l, A, j, h => by
    unfold NdsX at h
    obtain ⟨⟨b, o, cs, -, -, -, -, hx⟩, h2⟩ := h
    rw [wL]
    exact ⟨NdX.sets x cs hx, NdsX.sets l A (j + 1) h2⟩
end
end Go.Proofs.YtfamoikmfbpigaaDoor
namespace Go.Proofs.YtfamoikmfbpigaaDoor
open Go.RowKit

/-- A byte by its number to the base 16. -/
def hxT (a : Nat) : List UInt8 := [92, 120, hexB (a / 16), hexB (a % 16)]
theorem esc_hx (a : Nat) (ha : a < 256) (r : List UInt8) : escE (bl (120 :: hexB (a / 16) :: hexB (a % 16) :: r)) = some (a, bl r) := by
  rw [esc_hex _ _ (by omega) (by omega), show a / 16 * 16 + a % 16 = a by omega]
theorem let_hx (a : Nat) (ha : a < 256) (r : List UInt8) : letE (bl (hxT a ++ r)) = some (a, bl r) := by
  unfold letE hxT
  rw [List.cons_append, tk_cons]
  dsimp only
  rw [if_pos (by decide)]
  exact esc_hx a ha r
theorem parse_atom {n : Nd} {txt : List UInt8} (h : ∀ (R : ByteArray → Option (Nd × ByteArray)) r, atomE R (bl (txt ++ r)) = some (n, bl r)) (hh : HeadOk txt) (hl : txt.length ≤ 200) : parseP (bl txt) = (n, 0) := by
  unfold parseP
  rw [if_neg (by rw [bl_size]; omega), bl_size, rowsE]
  have := rows_one (row_one (R := rowsE txt.length) (n := n) (txt := txt) (fun r => ⟨n, r, h _ r, rfl⟩) hh) (.inl rfl)
  rw [List.append_nil] at this
  rw [this]
  rfl
theorem hx_head (a : Nat) (t : List UInt8) : hxT a ++ t = 92 :: ([120, hexB (a / 16), hexB (a % 16)] ++ t) := rfl
theorem parse_one (a : Nat) (ha : a < 256) : parseP (bl (hxT a)) = (.mk 1 (spanS noSet a 1) [], 0) := by
  refine parse_atom (fun R r => ?_) ⟨92, _, rfl, by decide, by decide, by decide, by decide, by decide, by decide⟩ (by simp [hxT])
  unfold atomE
  rw [hx_head, tk_cons]
  dsimp only
  rw [if_neg (by decide), if_neg (by decide), if_neg (by decide), if_pos (by decide)]
  show (match escE (bl (120 :: hexB (a / 16) :: hexB (a % 16) :: r)) with | none => (none : Option (Nd × ByteArray)) | some (c, t2) => some (Nd.mk 1 (spanS noSet c 1) [], t2)) = _
  rw [esc_hx a ha r]
/-- One step in brackets: a byte alone. -/
theorem bra_one (f : Nat) (fst : Bool) (a : Nat) (ha : a < 256) (S : List Nat) (c : UInt8) (t : List UInt8) (hc : c.toNat ≠ 45) : braL (f + 1) fst (bl (hxT a ++ c :: t)) S = braL f false (bl (c :: t)) (spanS S a 1) := by
  rw [braL, if_pos (.inr (by rw [hx_head, nextB_cons]; decide)), let_hx a ha]
  dsimp only
  rw [if_neg (by rw [isB_no hc]; decide)]
theorem bra_two (f : Nat) (fst : Bool) (a b : Nat) (ha : a < 256) (hb : b < 256) (hab : a ≤ b) (S : List Nat) (t : List UInt8) : braL (f + 1) fst (bl (hxT a ++ 45 :: (hxT b ++ t))) S = braL f false (bl t) (spanS S a (b + 1 - a)) := by
  rw [braL, if_pos (.inr (by rw [hx_head, nextB_cons]; decide)), let_hx a ha]
  dsimp only
  rw [if_pos (isB_yes (by decide)), bl_tail, let_hx b hb]
  dsimp only
  rw [if_neg (by omega)]
theorem bra_end (f : Nat) (S : List Nat) (t : List UInt8) : braL (f + 1) false (bl (93 :: t)) S = some (S, bl (93 :: t)) := by
  rw [braL, if_neg (by rw [nextB_cons]; decide)]
theorem atom_bra_yes (R : ByteArray → Option (Nd × ByteArray)) (t r : List UInt8) (S : List Nat) (h : ∀ f, 3 ≤ f → braL f true (bl t) noSet = some (S, bl (93 :: r))) (h3 : 3 ≤ t.length) (c : UInt8) (u : List UInt8) (ht : t = c :: u) (hc : c.toNat ≠ 94) : atomE R (bl (91 :: t)) = some (.mk 1 S [], bl r) := by
  unfold atomE
  rw [tk_cons]
  dsimp only
  rw [if_neg (by decide), if_pos (by decide)]
  unfold braE
  rw [show skipS (bl t) 94 = bl t by rw [ht]; exact skip_no hc, h _ (by rw [bl_size]; omega)]
  dsimp only
  rw [if_neg (by rw [ht, isB_no hc]; decide), bl_tail]
  rfl
theorem atom_bra_not (R : ByteArray → Option (Nd × ByteArray)) (t r : List UInt8) (S : List Nat) (h : ∀ f, 3 ≤ f → braL f true (bl t) noSet = some (S, bl (93 :: r))) (h3 : 3 ≤ t.length) : atomE R (bl (91 :: 94 :: t)) = some (.mk 1 (cmpJ S 4) [], bl r) := by
  unfold atomE
  rw [tk_cons]
  dsimp only
  rw [if_neg (by decide), if_pos (by decide)]
  unfold braE
  rw [skip_yes (by decide), h _ (by rw [bl_size]; omega)]
  dsimp only
  rw [if_pos (isB_yes (by decide)), bl_tail]
theorem brh : ∀ t : List UInt8, HeadOk (91 :: t) := fun t => ⟨91, t, rfl, by decide, by decide, by decide, by decide, by decide, by decide⟩
theorem parse_two (a b : Nat) (ha : a < 256) (hb : b < 256) : parseP (bl (91 :: (hxT a ++ (hxT b ++ [93])))) = (.mk 1 (spanS (spanS noSet a 1) b 1) [], 0) := by
  refine parse_atom (fun R r => ?_) (brh _) (by simp [hxT])
  rw [show 91 :: (hxT a ++ (hxT b ++ [93])) ++ r = 91 :: (hxT a ++ (hxT b ++ 93 :: r)) by simp]
  refine atom_bra_yes R _ r _ (fun f hf => ?_) (by simp [hxT]) 92 _ rfl (by decide)
  obtain ⟨f, rfl⟩ : ∃ g, f = g + 3 := ⟨f - 3, by omega⟩
  rw [hx_head b, bra_one _ _ a ha _ 92 _ (by decide), ← hx_head b, bra_one _ _ b hb _ 93 _ (by decide), bra_end]
theorem parse_all2 (a b : Nat) (ha : a < 256) (hb : b < 256) (hab : a ≤ b) : parseP (bl (91 :: (hxT a ++ 45 :: (hxT b ++ [93])))) = (.mk 1 (spanS noSet a (b + 1 - a)) [], 0) := by
  refine parse_atom (fun R r => ?_) (brh _) (by simp [hxT])
  rw [show 91 :: (hxT a ++ 45 :: (hxT b ++ [93])) ++ r = 91 :: (hxT a ++ 45 :: (hxT b ++ 93 :: r)) by simp]
  refine atom_bra_yes R _ r _ (fun f hf => ?_) (by simp [hxT]) 92 _ rfl (by decide)
  obtain ⟨f, rfl⟩ : ∃ g, f = g + 3 := ⟨f - 3, by omega⟩
  rw [bra_two _ _ a b ha hb hab, bra_end]
theorem parse_not (a b : Nat) (ha : a < 256) (hb : b < 256) (hab : a ≤ b) : parseP (bl (91 :: 94 :: (hxT a ++ 45 :: (hxT b ++ [93])))) = (.mk 1 (cmpJ (spanS noSet a (b + 1 - a)) 4) [], 0) := by
  refine parse_atom (fun R r => ?_) (brh _) (by simp [hxT])
  rw [show 91 :: 94 :: (hxT a ++ 45 :: (hxT b ++ [93])) ++ r = 91 :: 94 :: (hxT a ++ 45 :: (hxT b ++ 93 :: r)) by simp]
  refine atom_bra_not R _ r _ (fun f hf => ?_) (by simp [hxT])
  obtain ⟨f, rfl⟩ : ∃ g, f = g + 3 := ⟨f - 3, by omega⟩
  rw [bra_two _ _ a b ha hb hab, bra_end]
theorem has_one (a c : Nat) (ha : a < 256) (hc : c < 256) : hasS (spanS noSet a 1) c = decide (c = a) := by
  rw [hasS_span rfl a 1 (by omega) c hc, hasS_no, Bool.false_or, Bool.eq_iff_iff]
  simp; omega
theorem has_two (a b c : Nat) (ha : a < 256) (hb : b < 256) (hc : c < 256) : hasS (spanS (spanS noSet a 1) b 1) c = (decide (c = a) || decide (c = b)) := by
  rw [hasS_span (by rw [spanS_len]; rfl) b 1 (by omega) c hc, has_one a c ha hc]
  congr 1
  rw [Bool.eq_iff_iff]
  simp; omega
theorem has_all (a b c : Nat) (hb : b < 256) (hab : a ≤ b) (hc : c < 256) : hasS (spanS noSet a (b + 1 - a)) c = (decide (a ≤ c) && decide (c ≤ b)) := by
  rw [hasS_span rfl a _ (by omega) c hc, hasS_no, Bool.false_or]
  congr 1
  rw [decide_eq_decide]; omega
theorem hasS_cmp {S : List Nat} (hS : W64 S) (c : Nat) (hc : c < 256) : hasS (cmpJ S 4) c = !hasS S c := by
  obtain ⟨x0, x1, x2, x3, rfl⟩ := four hS.1
  have e : cmpJ [x0, x1, x2, x3] 4 = [18446744073709551615 - x0, 18446744073709551615 - x1, 18446744073709551615 - x2, 18446744073709551615 - x3] := rfl
  rw [e]
  have hb := hS.2
  have key : ∀ x r, x < 18446744073709551616 → r < 64 → (18446744073709551615 - x).testBit r = !x.testBit r := fun x r hx hr => by
    have := Nat.testBit_two_pow_sub_succ (x := x) (n := 64) (by simpa using hx) r
    rw [show (2 : Nat) ^ 64 - (x + 1) = 18446744073709551615 - x by omega] at this
    rw [this, decide_eq_true hr, Bool.true_and]
  unfold hasS
  have hq : c / 64 = 0 ∨ c / 64 = 1 ∨ c / 64 = 2 ∨ c / 64 = 3 := by omega
  have hr : c % 64 < 64 := by omega
  rcases hq with q | q | q | q <;> rw [q]
  · exact key x0 _ (hb x0 (by simp)) hr
  · exact key x1 _ (hb x1 (by simp)) hr
  · exact key x2 _ (hb x2 (by simp)) hr
  · exact key x3 _ (hb x3 (by simp)) hr
end Go.Proofs.YtfamoikmfbpigaaDoor
namespace Go.Proofs.YtfamoikmfbpigaaDoor
open Go.RowKit

/-- What Ref's three boxes and its row hold. -/
structure RfS (w W : World) (k : Int) (S : List Nat) (sv v : Value) (L : List Nd) : Prop where
  b1 : Blk W w.heap.size 27 (ndL k S sv)
  b2 : Blk W (w.heap.size + 1) 33 (ndL 0 noSet (.slice none 0 0))
  b3 : Blk W (w.heap.size + 1 + 1) 33 (ndL k S v)
  row : RowM W (w.heap.size + 1 + 1 + 1) v L
  below : Below w.heap.size w W
theorem RfS.low {w W V : World} {k : Int} {S : List Nat} {sv v : Value} {L : List Nd} (h : RfS w W k S sv v L) (hb : Below W.heap.size W V) : RfS w V k S sv v L :=
  ⟨h.b1.below hb, h.b2.below hb, h.b3.below hb, h.row.below hb, h.below.trans (hb.mono h.below.size)⟩
theorem rf_new (w : World) (k : Int) (S : List Nat) (sv : Value) : RfS w (((w.alloc (.cells (ndL k S sv).toArray 27)).alloc (.cells (ndL 0 noSet (.slice none 0 0)).toArray 33)).alloc (.cells (ndL k S (.slice none 0 0)).toArray 33)) k S sv (.slice none 0 0) [] := by
  have h := two_box w 27 33 (ndL k S sv) (ndL 0 noSet (.slice none 0 0))
  obtain ⟨h1, h2, h3⟩ := h
  obtain ⟨W1, hW1⟩ : ∃ W, (w.alloc (.cells (ndL k S sv).toArray 27)).alloc (.cells (ndL 0 noSet (.slice none 0 0)).toArray 33) = W := ⟨_, rfl⟩
  have hs : W1.heap.size = w.heap.size + 1 + 1 := by rw [← hW1]; simp
  rw [hW1] at h1 h2 h3 ⊢
  refine ⟨h1.alloc _, h2.alloc _, ?_, RowM.nil _ _, h3.alloc h3.size _⟩
  have := Blk.new W1 33 (ndL k S (.slice none 0 0))
  rw [hs] at this
  exact this
theorem rf_set {w W : World} {k : Int} {x0 x1 x2 x3 : Nat} {sv v v' : Value} {L : List Nd} (h1 : Blk W w.heap.size 27 (ndL k [x0, x1, x2, x3] sv)) (h2 : Blk W (w.heap.size + 1) 33 (ndL 0 noSet (.slice none 0 0))) (h3 : Blk W (w.heap.size + 1 + 1) 33 (ndL k [x0, x1, x2, x3] v)) (h4 : Below w.heap.size w W) (h5 : RowM W (w.heap.size + 1 + 1 + 1) v' L) :
    RfS w (W.setCell ⟨w.heap.size + 1 + 1, 5, none⟩ v') k [x0, x1, x2, x3] sv v' L :=
  ⟨h1.far (by simp; omega) _, h2.far (by simp) _, h3.set 5 _, h5.keep (by unfold World.setCell; simp) (fun b hb _ => Below.heap_setCell _ _ _ _ (by simp; omega)), h4.setCell (p := ⟨w.heap.size + 1 + 1, 5, none⟩) (by simp; omega) _⟩
set_option maxHeartbeats 4000000 in
set_option maxRecDepth 100000 in
theorem ref_any : ∀ (f : Nat) (n : Nd) (cs : List Value) (P : Nat → Prop) (w : World), szN n < f → szN n ≤ 100000 → NdX P w n cs →
    Calls Tryd.prog 13 #[.agg cs.toArray] w fun e w' => ∃ v, e = .returned v ∧ (∃ cs', v = .agg cs'.toArray ∧ NdAt w.heap.size w' n cs') ∧ Below w.heap.size w w'
  | 0, _, _, _, _, hf, _, _ => absurd hf (by omega)
  | f + 1, .mk k S L, cs, P, w, hf, hsz, hn => by
    obtain ⟨x0, x1, x2, x3, A, cap, rfl, rfl, hw, hc, hcm, hkids⟩ := hn.parts
    have IH := hide (fun (n : Nd) (cs : List Value) (W : World) (h1 : szN n < f) (h0 : szN n ≤ 100000) (h2 : NdX P W n cs) => ref_any f n cs P W h1 h0 h2)
    have HW4 := hide hw
    have HK := hide hkids
    obtain ⟨m, hm0⟩ : ∃ m, L.length = m := ⟨_, rfl⟩
    have HM := hide hm0
    have HSL := hide (show szL L < 100000 by unfold szN at hsz; omega)
    have HF := hide (show szL L < f by unfold szN at hf; omega)
    have HML := hide (show m ≤ 100000 by
      have key : ∀ L : List Nd, L.length ≤ szL L := fun L => by
        induction L with
        | nil => simp
        | cons x l ih =>
          unfold szL
          have : 1 ≤ szN x := by cases x; unfold szN; omega
          simp; omega
      have := key L
      have := HSL.out
      omega)
    rw [hm0] at hc ⊢
    have HB0 := hide (rf_new w k [x0, x1, x2, x3] (.slice A m cap))
    clear hn hkids hw hf hm0 hsz
    unfold maxLen at hcm
    rw [show (ndL k [x0, x1, x2, x3] (.slice A m cap)).toArray = #[.int .i64 k, .int .u64 (x0 : Int), .int .u64 (x1 : Int), .int .u64 (x2 : Int), .int .u64 (x3 : Int), .slice A m cap] from rfl]
    go_enter Tryd.func13, Tryd.ntmps13
    go_wp2
    rw [show ((w.alloc (.cells #[.int .i64 k, .int .u64 (x0 : Int), .int .u64 (x1 : Int), .int .u64 (x2 : Int), .int .u64 (x3 : Int), .slice A m cap] 27)).alloc (.cells #[.int .i64 0, .int .u64 0, .int .u64 0, .int .u64 0, .int .u64 0, .slice none 0 0] 33)).alloc (.cells #[.int .i64 k, .int .u64 (x0 : Int), .int .u64 (x1 : Int), .int .u64 (x2 : Int), .int .u64 (x3 : Int), .slice none 0 0] 33) = ((w.alloc (.cells (ndL k [x0, x1, x2, x3] (.slice A m cap)).toArray 27)).alloc (.cells (ndL 0 noSet (.slice none 0 0)).toArray 33)).alloc (.cells (ndL k [x0, x1, x2, x3] (.slice none 0 0)).toArray 33) from rfl]
    obtain ⟨W0, hW0⟩ : ∃ W, ((w.alloc (.cells (ndL k [x0, x1, x2, x3] (.slice A m cap)).toArray 27)).alloc (.cells (ndL 0 noSet (.slice none 0 0)).toArray 33)).alloc (.cells (ndL k [x0, x1, x2, x3] (.slice none 0 0)).toArray 33) = W := ⟨_, rfl⟩
    rw [hW0] at HB0 ⊢
    clear hW0
    go_loopw [4] (fun iv wr => ∃ (j : Nat) (A' : Option Addr) (cap' : Nat), iv = .int .i64 j ∧ j ≤ m ∧ cap' ≤ maxLen ∧ Hid (RfS w wr k [x0, x1, x2, x3] (.slice A m cap) (.slice A' j cap') (L.take j))) (fun iv _ => m - (intOf iv).toNat)
    case atStart => exact ⟨0, none, 0, rfl, by omega, by unfold maxLen; omega, hide (by rw [List.take_zero]; exact HB0.out)⟩
    case round =>
      clear HB0
      obtain ⟨j, A', cap', rfl, hj, hcm', HB⟩ := hrel
      have a5 := HB.out.b1.cell (i := 5) rfl
      have b5 := HB.out.b3.cell (i := 5) rfl
      have bf := fun i => HB.out.b3.frozen i
      by_cases hlt : j < m
      · obtain ⟨x, hx⟩ : ∃ x, L[j]? = some x := ⟨_, List.getElem?_eq_getElem (by rw [HM.out]; exact hlt)⟩
        obtain ⟨b, o, cx, rfl, hb, -, hcx, hnx⟩ := HK.out.get j x hx
        obtain ⟨kx, u0, u1, u2, u3, Ax, mx, capx, rfl, -, -⟩ := hnx.form
        have HCX := hide (fun (W : World) (hW : Below w.heap.size w W) i u (hu : (ndL kx [u0, u1, u2, u3] (.slice Ax mx capx))[i]? = some u) => show W.cell? ⟨b, o + j * 6 + i, none⟩ = some u from (hW.cell (p := ⟨b, o + j * 6 + i, none⟩) hb.2).trans (by have := hcx i u hu; rw [Nat.zero_add] at this; exact this))
        have hsx0 := szL_at hx
        have hsx : szN x < f := Nat.lt_of_le_of_lt hsx0 HF.out
        have hsx1 : szN x ≤ 100000 := by have := HSL.out; omega
        have HI := hide (fun (W : World) (hW : Below w.heap.size w W) => IH.out x _ W hsx hsx1 (hnx.low hW))
        have HST := hide (show L.take (j + 1) = L.take j ++ [x] by rw [List.take_add_one, hx]; rfl)
        have hln : (L.take j).length = j := by rw [List.length_take, HM.out]; omega
        have HLN := hide hln
        have hjm : j ≤ 1000000 := by have := HML.out; omega
        clear hx hcx hnx hsx hsx0 hsx1 hln
        have c0 : wr.cell? ⟨b, o + j * 6, none⟩ = some (.int .i64 kx) := HCX.out wr HB.out.below 0 _ rfl
        have c1 := HCX.out wr HB.out.below 1 _ rfl
        have c2 := HCX.out wr HB.out.below 2 _ rfl
        have c3 := HCX.out wr HB.out.below 3 _ rfl
        have c4 := HCX.out wr HB.out.below 4 _ rfl
        have c5 := HCX.out wr HB.out.below 5 _ rfl
        have hj0 : (0 : Int) ≤ (j : Int) := by omega
        have hj1 : (j : Int) < (m : Int) := by omega
        have HD := hide (HB.out.low (Below.drew (Below.refl wr.heap.size wr)))
        go_wp2
        have hz3 := HB.out.b3.lt
        go_region_law (first
          | (refine step_fn1 rfl 13 _ Tryd.func13 (by decide) (by simp [Tryd.f13]) (.tmp 23) _ rfl (.agg #[.int .i64 kx, .int .u64 (u0 : Int), .int .u64 (u1 : Int), .int .u64 (u2 : Int), .int .u64 (u3 : Int), .slice Ax mx capx]) (by simp [Act.eval, Act.put]) _ (HI.out wr.drew HD.out.below) ?_; rintro v4 w4 ⟨⟨cy, hv4, hn4⟩, hb4⟩; have hx4 := NdX.of _ _ hn4; obtain ⟨ky, y0, y1, y2, y3, Ay, my, capy, rfl, -, -⟩ := hx4.form; replace hv4 : v4 = .agg #[.int .i64 ky, .int .u64 (y0 : Int), .int .u64 (y1 : Int), .int .u64 (y2 : Int), .int .u64 (y3 : Int), .slice Ay my capy] := hv4; subst hv4; have HB4 := hide (HD.out.low hb4); have q4 := HB4.out.b3.cell (i := 5) rfl; have hbl := (Below.refl w4.heap.size w4).alloc (Nat.le_refl _) (.cells #[.int .i64 ky, .int .u64 (y0 : Int), .int .u64 (y1 : Int), .int .u64 (y2 : Int), .int .u64 (y3 : Int), .slice Ay my capy] 33); have HB5 := hide (HB4.out.low hbl); have q5 := HB5.out.b3.cell (i := 5) rfl; have hz5 := HB5.out.b3.lt; have HN5 := hide ((NdX.keep (Q := fun c => w.heap.size + 1 + 1 + 1 ≤ c ∧ some c ≠ (Value.slice A' j cap').ownBlock) (fun c hc _ => ⟨by have : wr.drew.heap.size = wr.heap.size := rfl; omega, fun e => by have := (HB.out.row.own c e.symm).2; have : wr.drew.heap.size = wr.heap.size := rfl; omega⟩) (Nat.le_refl _) (fun _ _ _ _ h => h) _ _ hx4).low hbl); have HC5 := hide (Blk.new w4 33 (ndL ky [y0, y1, y2, y3] (.slice Ay my capy))); clear hb4 hn4 hx4 hbl)
          | (refine step_appM (by rfl) (.tmp 18) (.tmp 25) (by rfl) (w.heap.size + 1 + 1 + 1) (by omega) (.slice A' j cap') (L.take j) x w4.heap.size (ndL ky [y0, y1, y2, y3] (.slice Ay my capy)) (by rfl) (by rfl) HB5.out.row HC5.out HN5.out (by rw [HLN.out]; omega) ?_; intro v6 w6 ho6 hb6; obtain ⟨A6, c6, hv6, hc6, hm6, -⟩ := ho6.kids; rw [List.length_append, HLN.out] at hv6; subst hv6; have HB6 := hide (show Blk w6 w.heap.size 27 (ndL k [x0, x1, x2, x3] (.slice (some ⟨b, o, none⟩) m cap)) ∧ Blk w6 (w.heap.size + 1) 33 (ndL 0 noSet (.slice none 0 0)) ∧ Blk w6 (w.heap.size + 1 + 1) 33 (ndL k [x0, x1, x2, x3] (.slice A' j cap')) ∧ Below w.heap.size w w6 from ⟨HB5.out.b1.under hb6 (by omega), HB5.out.b2.under hb6 (by omega), HB5.out.b3.under hb6 (by omega), HB5.out.below.trans (hb6.mono (by omega))⟩); have HO6 := hide ho6; have HM6 := hide hm6; have q6 := HB6.out.2.2.1.cell (i := 5) rfl; have q6f := fun i => HB6.out.2.2.1.frozen i; clear ho6 hb6 hm6 hc6))
        all_goals go_wp2
        all_goals exact ⟨⟨j + 1, A6, c6, by go_num, by omega, HM6.out, hide (by rw [HST.out]; exact rf_set HB6.out.1 HB6.out.2.1 HB6.out.2.2.1 HB6.out.2.2.2 HO6.out)⟩, by simp [intOf]; omega⟩
      · obtain rfl : j = m := by omega
        have b0 := HB.out.b3.cell (i := 0) rfl
        have b1 := HB.out.b3.cell (i := 1) rfl
        have b2 := HB.out.b3.cell (i := 2) rfl
        have b3 := HB.out.b3.cell (i := 3) rfl
        have b4 := HB.out.b3.cell (i := 4) rfl
        have z0 := HB.out.b2.cell (i := 0) rfl
        have z1 := HB.out.b2.cell (i := 1) rfl
        have z2 := HB.out.b2.cell (i := 2) rfl
        have z3 := HB.out.b2.cell (i := 3) rfl
        have z4 := HB.out.b2.cell (i := 4) rfl
        have z5 := HB.out.b2.cell (i := 5) rfl
        have zf := fun i => HB.out.b2.frozen i
        have HLL := hide (show L.take j = L from List.take_of_length_le (by rw [HM.out]; exact Nat.le_refl _))
        go_wp2
        refine bodyPost_ret (results_cell_row rfl _ _ (w.heap.size + 1) 33 (ndL k [x0, x1, x2, x3] (.slice A' j cap')).toArray (0, 0) _ rfl (nd_putT HB.out.b2 k x0 x1 x2 x3 (.slice A' j cap')) Tryd.underlying33 rfl (by kernel_rfl)) rfl ?_
        have hk := nd_keep wr (w.heap.size + 1) k x0 x1 x2 x3 (.slice A' j cap')
        have hrow := HB.out.row
        rw [HLL.out] at hrow
        obtain ⟨A9, c9, e9, h91, h92, h93⟩ := hrow.kids
        injection e9 with e1 e2 e3
        subst e1 e3
        refine ⟨_, rfl, ⟨_, rfl, ?_⟩, BelowKeep HB.out.below hk (by omega)⟩
        unfold NdAt
        exact ⟨A', cap', by rw [HM.out], HW4.out, h91, h92, NdsX.at (fun b h => by omega) _ _ _ (h93.keepR (fun b hb => by omega) hk)⟩
end Go.Proofs.YtfamoikmfbpigaaDoor
namespace Go.Proofs.YtfamoikmfbpigaaDoor
open Go.RowKit

abbrev ndV (k : Int) (x0 x1 x2 x3 : Nat) (A : Option Addr) (m cap : Nat) : Value := .agg #[.int .i64 k, .int .u64 (x0 : Int), .int .u64 (x1 : Int), .int .u64 (x2 : Int), .int .u64 (x3 : Int), .slice A m cap]
/-- The document's answer at a place: a node, and the place behind it; -1: none. -/
def ResI (s : ByteArray) (w : World) (x : Option (Nd × ByteArray)) (e : Ending) (w' : World) : Prop :=
  ∃ (n : Nd) (k : Int) (x0 x1 x2 x3 : Nat) (A : Option Addr) (m cap : Nat) (q : Int), e = .returned (.tuple #[ndV k x0 x1 x2 x3 A m cap, .int .i64 q]) ∧ NdAt w.heap.size w' n (ndL k [x0, x1, x2, x3] (.slice A m cap)) ∧ Below w.heap.size w w' ∧
    ((x = none ∧ q = -1) ∨ ∃ j : Nat, x = some (n, rest s j) ∧ q = (j : Int) ∧ j ≤ s.size)
theorem ResI.no {s : ByteArray} {w : World} {x : Option (Nd × ByteArray)} {w' : World} {n : Nd} {k : Int} {x0 x1 x2 x3 : Nat} {A : Option Addr} {m cap : Nat} (h : x = none) (hn : NdAt w.heap.size w' n (ndL k [x0, x1, x2, x3] (.slice A m cap))) (hb : Below w.heap.size w w') :
    ResI s w x (.returned (.tuple #[ndV k x0 x1 x2 x3 A m cap, .int .i64 (-1)])) w' := ⟨n, k, x0, x1, x2, x3, A, m, cap, -1, rfl, hn, hb, .inl ⟨h, rfl⟩⟩
theorem ResI.yes {s : ByteArray} {w : World} {x : Option (Nd × ByteArray)} {w' : World} {n : Nd} {k : Int} {x0 x1 x2 x3 : Nat} {A : Option Addr} {m cap j : Nat} {q : Int} (h : x = some (n, rest s j)) (hq : q = (j : Int)) (hj : j ≤ s.size) (hn : NdAt w.heap.size w' n (ndL k [x0, x1, x2, x3] (.slice A m cap))) (hb : Below w.heap.size w w') :
    ResI s w x (.returned (.tuple #[ndV k x0 x1 x2 x3 A m cap, .int .i64 q])) w' := ⟨n, k, x0, x1, x2, x3, A, m, cap, q, rfl, hn, hb, .inr ⟨j, h, hq, hj⟩⟩
theorem results_nd {f : Func} (hf : f.results = #[.cell 4 33, .tmp 5]) (tmps : Array Value) (w : World) (z : Nat) (cs : List Value) (v : Value) (hp : tmps.getD 4 undef = .pointer (some ⟨z, 0, none⟩)) (hq : tmps.getD 5 undef = v) (hz : Blk w z 33 cs) (h6 : cs.length = 6) :
    (results f tmps).run Tryd.prog w = .ok (.tuple #[.agg cs.toArray, v]) w := by
  have hp' : tmps[4]?.getD undef = .pointer (some ⟨z, 0, none⟩) := by simpa using hp
  have hq' : tmps[5]?.getD undef = v := by simpa using hq
  have hl1 := run_loadVar_row w z 33 33 cs.toArray (0, 0) _ hz Tryd.underlying33 rfl (by
    have : (Tryd.prog.info? 33).map (·.size) = some 6 := by kernel_rfl
    rw [this]; simp [h6])
  simp [results, hf, hp', hq', asAddr, hl1]
theorem isB_rest (s : ByteArray) (i b : Nat) : isB (rest s i) b = decide (byI s i = some b) := by
  unfold isB byI
  by_cases h : i < s.size
  · rw [dif_pos (by rw [rest_size]; omega), dif_pos h]
    have : (rest s i)[0]'(by rw [rest_size]; omega) = s[i] := by
      unfold rest
      rw [ByteArray.getElem_extract]
      congr 1
    rw [this]
    by_cases e : s[i].toNat = b
    · rw [e]; simp
    · rw [decide_eq_false (by simpa using e)]; simpa using e
  · rw [dif_neg (by rw [rest_size]; omega), dif_neg h]; simp
theorem next_rest (s : ByteArray) (i : Nat) : nextB (rest s i) = (byI s i).getD 0 := by
  unfold nextB byI
  by_cases h : i < s.size
  · rw [dif_pos (by rw [rest_size]; omega), dif_pos h]
    have : (rest s i)[0]'(by rw [rest_size]; omega) = s[i] := by
      unfold rest
      rw [ByteArray.getElem_extract]
      congr 1
    rw [this]; rfl
  · rw [dif_neg (by rw [rest_size]; omega), dif_neg h]; rfl
theorem skip_rest (s : ByteArray) (i b : Nat) : skipS (rest s i) b = rest s (if byI s i = some b then i + 1 else i) := by
  unfold skipS
  rw [isB_rest]
  by_cases h : byI s i = some b
  · rw [if_pos (by simpa using h), if_pos h, rest_tail]
  · rw [if_neg (by simpa using h), if_neg h]
theorem at_is {s : ByteArray} {i b : Nat} (h : byI s i = some b) : atI s i = (b : Int) := (by_lt h).2.2
theorem at_eq (s : ByteArray) (i b : Nat) : (atI s i == (b : Int)) = decide (byI s i = some b) := by
  cases h : byI s i with
  | none => rw [(by_none h).2]; simp
  | some c =>
    rw [at_is h]
    by_cases e : c = b
    · subst e; simp
    · have e1 : (some c = some b) = False := by simpa using e
      have e2 : ((c : Int) == (b : Int)) = false := by rw [beq_eq_false_iff_ne]; omega
      rw [e2, decide_eq_false (by rw [e1]; exact id)]
theorem escI_bd {s : ByteArray} {i b k : Nat} (h : escI s i = some (b, k)) : b < 256 ∧ i < k ∧ k ≤ s.size := by
  unfold escI at h
  cases hd : byI s i with
  | none => rw [hd] at h; cases h
  | some d =>
    obtain ⟨h1, h2, -⟩ := by_lt hd
    rw [hd] at h
    simp only at h
    split at h
    · injection h with h; injection h with h3 h4; omega
    split at h
    · injection h with h; injection h with h3 h4; omega
    split at h
    · injection h with h; injection h with h3 h4; omega
    split at h
    · cases hx : byI s (i + 1) with
      | none => rw [hx] at h; cases h
      | some x =>
        rw [hx] at h
        simp only at h
        cases hg : digE x with
        | none => rw [hg] at h; cases h
        | some g =>
          rw [hg] at h
          simp only at h
          cases hy : byI s (i + 2) with
          | none => rw [hy] at h; cases h
          | some y =>
            rw [hy] at h
            simp only at h
            cases hl : digE y with
            | none => rw [hl] at h; cases h
            | some l =>
              rw [hl] at h
              injection h with h; injection h with h3 h4
              have g1 := dig_bd (by_lt hx).2.1 hg
              have g2 := dig_bd (by_lt hy).2.1 hl
              have g3 := (by_lt hy).1
              omega
    · split at h
      · injection h with h; injection h with h3 h4; omega
      · cases h
theorem let_ib {inn : Bool} {s : ByteArray} {i b k : Nat} (h : lettI inn s i = some (b, k)) : b < 256 ∧ i < k ∧ k ≤ s.size := by
  unfold lettI at h
  cases hd : byI s i with
  | none => rw [hd] at h; cases h
  | some d =>
    obtain ⟨h1, h2, -⟩ := by_lt hd
    rw [hd] at h
    simp only at h
    split at h
    · have := escI_bd h; omega
    · split at h
      · cases h
      · injection h with h; injection h with h3 h4; omega
theorem rlet_any (inn : Bool) (s : ByteArray) (i : Nat) (w : World) (hs : s.size ≤ 100000) (hi : i ≤ 100000) :
    Calls Tryd.prog 53 #[.string s, .int .i64 (i : Int), .bool inn] w (LetP (lettI inn s i) w) := by
  by_cases h : byI s i = some 92
  · exact rlet_esc inn s i w hs hi h
  · exact rlet_plain inn s i w hs hi h
theorem rwith_is (x0 x1 x2 x3 a b : Nat) (w : World) (hS : W64 [x0, x1, x2, x3]) (ha : a < 256) (hb : b < 256) :
    Calls Tryd.prog 52 #[.agg #[.int .u64 (x0 : Int), .int .u64 (x1 : Int), .int .u64 (x2 : Int), .int .u64 (x3 : Int)], .int .i64 (a : Int), .int .i64 (b : Int)] w fun e w' => (∃ y0 y1 y2 y3 : Nat, spanS [x0, x1, x2, x3] a (b + 1 - a) = [y0, y1, y2, y3] ∧ e = .returned (.agg #[.int .u64 (y0 : Int), .int .u64 (y1 : Int), .int .u64 (y2 : Int), .int .u64 (y3 : Int)])) ∧ Below w.heap.size w w' := by
  refine (rwith_any x0 x1 x2 x3 a b w hS ha hb).mono ?_
  rintro e w' ⟨rfl, h⟩
  obtain ⟨y0, y1, y2, y3, hy⟩ := four (spanS_w hS a (b + 1 - a)).1
  exact ⟨⟨y0, y1, y2, y3, hy, by rw [hy]; rfl⟩, h⟩
/-- The others, one by one. -/
def othS (S : List Nat) : Nat → List Nat
  | 0 => noSet
  | b + 1 => if hasS S b = true then othS S b else spanS (othS S b) b (b + 1 - b)
theorem oth_step (S O : List Nat) (b : Nat) (h : othS S b = O) : othS S (b + 1) = if hasS S b = true then O else spanS O b (b + 1 - b) := by rw [← h]; rfl
theorem span_one1 (S : List Nat) (b : Nat) : spanS S b (b + 1 - b) = bitS S b := by rw [show b + 1 - b = 1 by omega]; rfl
theorem oth_w (S : List Nat) : ∀ b, W64 (othS S b)
  | 0 => noSet_w
  | b + 1 => by
    unfold othS
    split
    · exact oth_w S b
    · rw [span_one1]; exact bitS_w (oth_w S b) b
theorem oth_has (S : List Nat) (c : Nat) (hc : c < 256) : ∀ b, b ≤ 256 → hasS (othS S b) c = (decide (c < b) && !hasS S c)
  | 0, _ => by rw [othS, hasS_no]; simp
  | b + 1, hb => by
    have ih := oth_has S c hc b (by omega)
    unfold othS
    by_cases h : hasS S b = true
    · rw [if_pos h, ih]
      by_cases e : c = b
      · subst e; rw [h]; simp
      · have : decide (c < b) = decide (c < b + 1) := by
          by_cases h2 : c < b
          · rw [decide_eq_true h2, decide_eq_true (by omega)]
          · rw [decide_eq_false h2, decide_eq_false (by omega)]
        rw [this]
    · rw [if_neg h, span_one1, hasS_bit (oth_w S b).1 (by omega) hc, ih]
      by_cases e : c = b
      · subst e
        have : hasS S c = false := by simpa using h
        rw [this]; simp
      · have h1 : decide (c < b) = decide (c < b + 1) := by
          by_cases h2 : c < b
          · rw [decide_eq_true h2, decide_eq_true (by omega)]
          · rw [decide_eq_false h2, decide_eq_false (by omega)]
        have h2 : (b == c) = false := by simp; omega
        rw [h1, h2]; simp
theorem oth_all {S : List Nat} (hS : W64 S) : othS S 256 = cmpJ S 4 :=
  set_ext (oth_w S 256) (cmpJ_w hS 4) fun c hc => by rw [oth_has S c hc 256 (Nat.le_refl _), hasS_cmp hS c hc, decide_eq_true hc]; simp
/-- What bracket's two boxes hold. -/
structure BrS (w W : World) (S : List Nat) : Prop where
  b1 : Blk W w.heap.size 33 (ndL 0 noSet (.slice none 0 0))
  b2 : Blk W (w.heap.size + 1) 33 (ndL 1 S (.slice none 0 0))
  below : Below w.heap.size w W
  wide : W64 S
theorem BrS.low {w W V : World} {S : List Nat} (h : BrS w W S) (hb : Below W.heap.size W V) : BrS w V S := ⟨h.b1.below hb, h.b2.below hb, h.below.trans (hb.mono h.below.size), h.wide⟩
def setS (W : World) (z y0 y1 y2 y3 : Nat) : World := (((W.setCell ⟨z, 1, none⟩ (.int .u64 (y0 : Int))).setCell ⟨z, 2, none⟩ (.int .u64 (y1 : Int))).setCell ⟨z, 3, none⟩ (.int .u64 (y2 : Int))).setCell ⟨z, 4, none⟩ (.int .u64 (y3 : Int))
theorem BrS.put {w W : World} {x0 x1 x2 x3 y0 y1 y2 y3 : Nat} (h : BrS w W [x0, x1, x2, x3]) (hy : W64 [y0, y1, y2, y3]) : BrS w (setS W (w.heap.size + 1) y0 y1 y2 y3) [y0, y1, y2, y3] :=
  ⟨(((h.b1.far (by simp) _).far (by simp) _).far (by simp) _).far (by simp) _, (((h.b2.set 1 _).set 2 _).set 3 _).set 4 _,
   (((h.below.setCell (p := ⟨w.heap.size + 1, 1, none⟩) (by simp) _).setCell (p := ⟨w.heap.size + 1, 2, none⟩) (by simp) _).setCell (p := ⟨w.heap.size + 1, 3, none⟩) (by simp) _).setCell (p := ⟨w.heap.size + 1, 4, none⟩) (by simp) _, hy⟩
theorem br_new (w : World) : BrS w ((w.alloc (.cells (ndL 0 noSet (.slice none 0 0)).toArray 33)).alloc (.cells (ndL 1 noSet (.slice none 0 0)).toArray 33)) noSet := by
  obtain ⟨h1, h2, h3⟩ := two_box w 33 33 (ndL 0 noSet (.slice none 0 0)) (ndL 1 noSet (.slice none 0 0))
  exact ⟨h1, h2, h3, noSet_w⟩
/-- The one box more. -/
structure OtS (w W : World) (z : Nat) (S O : List Nat) : Prop where
  br : BrS w W S
  b3 : Blk W z 24 (u4 O)
theorem OtS.low {w W V : World} {z : Nat} {S O : List Nat} (h : OtS w W z S O) (hb : Below W.heap.size W V) : OtS w V z S O := ⟨h.br.low hb, h.b3.below hb⟩
theorem OtS.put {w W : World} {z x0 x1 x2 x3 y0 y1 y2 y3 : Nat} {S : List Nat} (h : OtS w W z S [x0, x1, x2, x3]) (hz : w.heap.size + 1 < z) : OtS w (arrSet W z y0 y1 y2 y3) z S [y0, y1, y2, y3] :=
  ⟨⟨(((h.br.b1.far (by simp; omega) _).far (by simp; omega) _).far (by simp; omega) _).far (by simp; omega) _, (((h.br.b2.far (by simp; omega) _).far (by simp; omega) _).far (by simp; omega) _).far (by simp; omega) _, arr_keep h.br.below (by omega) _ _ _ _, h.br.wide⟩,
   (((h.b3.set 0 _).set 1 _).set 2 _).set 3 _⟩
theorem BrS.new {w W : World} {S : List Nat} (h : BrS w W S) : OtS w (W.alloc (.cells (u4 noSet).toArray 24)) W.heap.size S noSet :=
  ⟨h.low ((Below.refl _ _).alloc (Nat.le_refl _) _), Blk.new _ _ _⟩
theorem BrS.lt {w W : World} {S : List Nat} (h : BrS w W S) : w.heap.size + 1 < W.heap.size := h.b2.lt
theorem four_of {S : List Nat} (h : W64 S) : ∃ a b c d, S = [a, b, c, d] := four h.1
end Go.Proofs.YtfamoikmfbpigaaDoor
namespace Go.Proofs.YtfamoikmfbpigaaDoor
open Go.RowKit

set_option maxHeartbeats 8000000 in
set_option maxRecDepth 100000 in
theorem rbra_yes (s : ByteArray) (i0 : Nat) (w : World) (hs : s.size ≤ 90000) (hi0 : i0 ≤ s.size) (hnt : byI s i0 = some 94) :
    Calls Tryd.prog 51 #[.string s, .int .i64 (i0 : Int)] w (ResI s w (braE (rest s i0))) := by
  have HB0 := hide (br_new w)
  have HA0 := hide (fun W => rat_any s i0 W (by omega))
  have hbr : braE (rest s i0) = match braL ((skipS (rest s i0) 94).size + 1) true (skipS (rest s i0) 94) noSet with | none => none | some (S, t) => some (.mk 1 (cmpJ S (if isB (rest s i0) 94 = true then 4 else 0)) [], t.extract 1 t.size) := rfl
  rw [skip_rest, isB_rest] at hbr
  obtain ⟨Y, hY⟩ : ∃ Y, braE (rest s i0) = Y := ⟨_, rfl⟩
  rw [hY] at hbr ⊢
  clear hY
  have hi1 : i0 + 1 ≤ s.size := by have := (by_lt hnt).1; omega
  obtain ⟨i1, hie⟩ : ∃ i, i0 + 1 = i := ⟨_, rfl⟩
  rw [if_pos hnt, decide_eq_true hnt] at hbr
  rw [hie] at hbr hi1
  obtain ⟨X, hXe⟩ : ∃ X, braL ((rest s i1).size + 1) true (rest s i1) noSet = X := ⟨_, rfl⟩
  rw [hXe] at hbr
  have HX := hide hbr
  have HXE := hide hXe
  have HIE := hide hie
  clear hbr hXe hie
  have hq := at_eq s i0 94
  have HAT := hide (fun (i : Nat) (W : World) => rat_any s i W (by omega))
  have HLT := hide (fun (i : Nat) (W : World) (hi : i ≤ 100000) => rlet_any true s i W (by omega) hi)
  go_enter Tryd.func51, Tryd.ntmps51
  go_wp2_with fail
  rw [show (w.alloc (.cells #[.int .i64 0, .int .u64 0, .int .u64 0, .int .u64 0, .int .u64 0, .slice none 0 0] 33)).alloc (.cells #[.int .i64 1, .int .u64 0, .int .u64 0, .int .u64 0, .int .u64 0, .slice none 0 0] 33) = (w.alloc (.cells (ndL 0 noSet (.slice none 0 0)).toArray 33)).alloc (.cells (ndL 1 noSet (.slice none 0 0)).toArray 33) from rfl]
  obtain ⟨W0, hW0⟩ : ∃ W, (w.alloc (.cells (ndL 0 noSet (.slice none 0 0)).toArray 33)).alloc (.cells (ndL 1 noSet (.slice none 0 0)).toArray 33) = W := ⟨_, rfl⟩
  rw [hW0] at HB0 ⊢
  clear hW0
  refine (HA0.out _).mono ?_; rintro e w1 ⟨rfl, rfl⟩
  obtain ⟨a0, ha0⟩ : ∃ a, atI s i0 = a := ⟨_, rfl⟩
  rw [ha0] at hq ⊢
  rw [decide_eq_true hnt] at hq
  clear ha0 HA0 hnt
  go_wp2_with fail
  have hq2 : (a0 == 94) = true := hq
  rw [hq2]
  clear hq hq2
  go_loopw [1, 8] (fun iv mv wr => ∃ (m i f : Nat) (S : List Nat), mv = .int .i64 (m : Int) ∧ iv = .int .i64 (i : Int) ∧ m ≤ i ∧ i ≤ s.size ∧ s.size - i < f ∧ Hid (braL f (decide (m = 0)) (rest s i) S = X) ∧ Hid (BrS w wr S)) (fun iv _ _ => s.size - (intOf iv).toNat)
  case atStart => exact ⟨0, i1, (rest s i1).size + 1, noSet, rfl, by rw [← HIE.out]; first | done | go_num, by omega, by omega, by rw [rest_size]; omega, HXE, HB0⟩
  case round =>
    clear HB0 HXE
    obtain ⟨m, i, f, S, rfl, rfl, hmi, his, hf, HL, HB⟩ := hrel
    obtain ⟨f, rfl⟩ : ∃ g, f = g + 1 := ⟨f - 1, by omega⟩
    have HST := HL.out
    rw [braL, next_rest] at HST
    by_cases hm : m = 0
    · subst hm
      rw [if_pos (.inl rfl), let_rest] at HST
      go_wp2_with fail
      refine (HLT.out i _ (by omega)).mono ?_; rintro e w2 hr
      obtain ⟨hb2, hr⟩ := hr.cases
      replace HB := hide (HB.out.low hb2)
      clear hb2
      obtain ⟨x0, x1, x2, x3, rfl⟩ := four_of HB.out.wide
      rcases hr with ⟨hx, rfl⟩ | ⟨a, k, hx, rfl⟩
      · rw [hx] at HST
        have HNX := hide (show (none : Option (List Nat × ByteArray)) = X from HST)
        have HNO := hide (show Y = none by rw [HX.out, ← HNX.out])
        clear hx HST HNX HL
        have a0 := HB.out.b1.cell (i := 0) rfl
        have a1 := HB.out.b1.cell (i := 1) rfl
        have a2 := HB.out.b1.cell (i := 2) rfl
        have a3 := HB.out.b1.cell (i := 3) rfl
        have a4 := HB.out.b1.cell (i := 4) rfl
        have a5 := HB.out.b1.cell (i := 5) rfl
        have b0 := HB.out.b2.cell (i := 0) rfl
        have b1 := HB.out.b2.cell (i := 1) rfl
        have b2 := HB.out.b2.cell (i := 2) rfl
        have b3 := HB.out.b2.cell (i := 3) rfl
        have b4 := HB.out.b2.cell (i := 4) rfl
        have b5 := HB.out.b2.cell (i := 5) rfl
        have af := fun i => HB.out.b1.frozen i
        go_wp2
        refine bodyPost_ret (results_nd rfl _ _ w.heap.size (ndL 1 [x0, x1, x2, x3] (.slice none 0 0)) _ rfl rfl (nd_putT HB.out.b1 1 x0 x1 x2 x3 (.slice none 0 0)) rfl) rfl ?_
        exact ResI.no HNO.out (NdAt.leaf _ _ 1 HB.out.wide) (BelowKeep HB.out.below (nd_keep _ w.heap.size 1 x0 x1 x2 x3 (.slice none 0 0)) (Nat.le_refl _))
      · have hlb := let_ib hx
        rw [hx] at HST
        simp only [Option.map_some] at HST
        rw [isB_rest] at HST
        have HQ := hide (at_eq s k 45)
        have hq45 := at_eq s k 45
        obtain ⟨ak, hak⟩ : ∃ a, atI s k = a := ⟨_, rfl⟩
        have HAK := hide (fun W => HAT.out k W)
        rw [hak] at HAK hq45
        clear hx HL hak
        go_wp2_with fail
        refine (HAK.out _).mono ?_; rintro e w3 ⟨rfl, rfl⟩
        by_cases h45 : byI s k = some 45
        · rw [decide_eq_true h45] at hq45 HST
          rw [if_pos rfl, rest_tail, let_rest] at HST
          clear h45
          go_wp2_with fail
          refine (HLT.out (k + 1) _ (by omega)).mono ?_; rintro e w4 hr
          obtain ⟨hb4, hr⟩ := hr.cases
          replace HB := hide (HB.out.low hb4)
          clear hb4
          rcases hr with ⟨hx, rfl⟩ | ⟨b, k2, hx, rfl⟩
          · rw [hx] at HST
            have HNX := hide (show (none : Option (List Nat × ByteArray)) = X from HST)
            have HNO := hide (show Y = none by rw [HX.out, ← HNX.out])
            clear hx HST HNX
            have a0 := HB.out.b1.cell (i := 0) rfl
            have a1 := HB.out.b1.cell (i := 1) rfl
            have a2 := HB.out.b1.cell (i := 2) rfl
            have a3 := HB.out.b1.cell (i := 3) rfl
            have a4 := HB.out.b1.cell (i := 4) rfl
            have a5 := HB.out.b1.cell (i := 5) rfl
            have b0 := HB.out.b2.cell (i := 0) rfl
            have b1 := HB.out.b2.cell (i := 1) rfl
            have b2 := HB.out.b2.cell (i := 2) rfl
            have b3 := HB.out.b2.cell (i := 3) rfl
            have b4 := HB.out.b2.cell (i := 4) rfl
            have b5 := HB.out.b2.cell (i := 5) rfl
            have af := fun i => HB.out.b1.frozen i
            go_wp2
            refine bodyPost_ret (results_nd rfl _ _ w.heap.size (ndL 1 [x0, x1, x2, x3] (.slice none 0 0)) _ rfl rfl (nd_putT HB.out.b1 1 x0 x1 x2 x3 (.slice none 0 0)) rfl) rfl ?_
            exact ResI.no HNO.out (NdAt.leaf _ _ 1 HB.out.wide) (BelowKeep HB.out.below (nd_keep _ w.heap.size 1 x0 x1 x2 x3 (.slice none 0 0)) (Nat.le_refl _))
          · have hlb2 := let_ib hx
            rw [hx] at HST
            simp only [Option.map_some] at HST
            clear hx
            by_cases hba : b < a
            · rw [if_pos hba] at HST
              have hba2 : (b : Int) < (a : Int) := by omega
              have HNX := hide (show (none : Option (List Nat × ByteArray)) = X from HST)
              have HNO := hide (show Y = none by rw [HX.out, ← HNX.out])
              clear HST HNX
              have a0 := HB.out.b1.cell (i := 0) rfl
              have a1 := HB.out.b1.cell (i := 1) rfl
              have a2 := HB.out.b1.cell (i := 2) rfl
              have a3 := HB.out.b1.cell (i := 3) rfl
              have a4 := HB.out.b1.cell (i := 4) rfl
              have a5 := HB.out.b1.cell (i := 5) rfl
              have b0 := HB.out.b2.cell (i := 0) rfl
              have b1 := HB.out.b2.cell (i := 1) rfl
              have b2 := HB.out.b2.cell (i := 2) rfl
              have b3 := HB.out.b2.cell (i := 3) rfl
              have b4 := HB.out.b2.cell (i := 4) rfl
              have b5 := HB.out.b2.cell (i := 5) rfl
              have af := fun i => HB.out.b1.frozen i
              go_wp2
              refine bodyPost_ret (results_nd rfl _ _ w.heap.size (ndL 1 [x0, x1, x2, x3] (.slice none 0 0)) _ rfl rfl (nd_putT HB.out.b1 1 x0 x1 x2 x3 (.slice none 0 0)) rfl) rfl ?_
              exact ResI.no HNO.out (NdAt.leaf _ _ 1 HB.out.wide) (BelowKeep HB.out.below (nd_keep _ w.heap.size 1 x0 x1 x2 x3 (.slice none 0 0)) (Nat.le_refl _))
            · rw [if_neg hba] at HST
              have hba2 : ¬ (b : Int) < (a : Int) := by omega
              have c0 := HB.out.b2.cell (i := 0) rfl
              have c1 := HB.out.b2.cell (i := 1) rfl
              have c2 := HB.out.b2.cell (i := 2) rfl
              have c3 := HB.out.b2.cell (i := 3) rfl
              have c4 := HB.out.b2.cell (i := 4) rfl
              have c5 := HB.out.b2.cell (i := 5) rfl
              have cf := fun i => HB.out.b2.frozen i
              go_wp2_with fail
              refine (rwith_is x0 x1 x2 x3 a b _ HB.out.wide (by omega) (by omega)).mono ?_; rintro e w9 ⟨⟨y0, y1, y2, y3, hy, rfl⟩, hb9⟩
              have HB9 := hide (HB.out.low hb9)
              have HW9 := hide (show W64 [y0, y1, y2, y3] by rw [← hy]; exact spanS_w HB.out.wide _ _)
              have HY := hide hy
              clear hb9 hy c0 c1 c2 c3 c4 c5 cf
              have c0 := HB9.out.b2.cell (i := 0) rfl
              have c1 := HB9.out.b2.cell (i := 1) rfl
              have c2 := HB9.out.b2.cell (i := 2) rfl
              have c3 := HB9.out.b2.cell (i := 3) rfl
              have c4 := HB9.out.b2.cell (i := 4) rfl
              have c5 := HB9.out.b2.cell (i := 5) rfl
              have cf := fun i => HB9.out.b2.frozen i
              go_wp2_with fail
              go_roundw
              case rel =>
                have hr1 : Hid (braL f (decide (0 + 1 = 0)) (rest s k2) [y0, y1, y2, y3] = X) := hide (by rw [show decide (0 + 1 = 0) = false from rfl, ← HY.out]; exact HST)
                exact ⟨0 + 1, k2, f, [y0, y1, y2, y3], by go_num, rfl, by omega, by omega, by omega, hr1, hide (HB9.out.put HW9.out)⟩
              case measure => simp [intOf]; omega
        · rw [decide_eq_false h45] at hq45 HST
          rw [if_neg (by decide)] at HST
          rw [show 1 = a + 1 - a by omega] at HST
          clear h45
          have c0 := HB.out.b2.cell (i := 0) rfl
          have c1 := HB.out.b2.cell (i := 1) rfl
          have c2 := HB.out.b2.cell (i := 2) rfl
          have c3 := HB.out.b2.cell (i := 3) rfl
          have c4 := HB.out.b2.cell (i := 4) rfl
          have c5 := HB.out.b2.cell (i := 5) rfl
          have cf := fun i => HB.out.b2.frozen i
          go_wp2_with fail
          refine (rwith_is x0 x1 x2 x3 a a _ HB.out.wide (by omega) (by omega)).mono ?_; rintro e w9 ⟨⟨y0, y1, y2, y3, hy, rfl⟩, hb9⟩
          have HB9 := hide (HB.out.low hb9)
          have HW9 := hide (show W64 [y0, y1, y2, y3] by rw [← hy]; exact spanS_w HB.out.wide _ _)
          have HY := hide hy
          clear hb9 hy c0 c1 c2 c3 c4 c5 cf
          have c0 := HB9.out.b2.cell (i := 0) rfl
          have c1 := HB9.out.b2.cell (i := 1) rfl
          have c2 := HB9.out.b2.cell (i := 2) rfl
          have c3 := HB9.out.b2.cell (i := 3) rfl
          have c4 := HB9.out.b2.cell (i := 4) rfl
          have c5 := HB9.out.b2.cell (i := 5) rfl
          have cf := fun i => HB9.out.b2.frozen i
          go_wp2_with fail
          go_roundw
          case rel =>
            have hr1 : Hid (braL f (decide (0 + 1 = 0)) (rest s k) [y0, y1, y2, y3] = X) := hide (by rw [show decide (0 + 1 = 0) = false from rfl, ← HY.out]; exact HST)
            exact ⟨0 + 1, k, f, [y0, y1, y2, y3], by go_num, rfl, by omega, by omega, by omega, hr1, hide (HB9.out.put HW9.out)⟩
          case measure => simp [intOf]; omega
    · have hm0 : ((m : Int) == 0) = false := by simp; omega
      rw [decide_eq_false hm] at HST
      have hq93 := at_eq s i 93
      have HAI := hide (fun W => HAT.out i W)
      by_cases h93 : byI s i = some 93
      · have hc93 := at_is h93
        rw [hc93] at HAI
        rw [if_neg (by rw [h93]; simp)] at HST
        have HNX := hide (show some (S, rest s i) = X from HST)
        have hib := (by_lt h93).1
        clear HST HL h93 hq93 hc93
        obtain ⟨x0, x1, x2, x3, rfl⟩ := four_of HB.out.wide
        go_wp2_with fail
        refine (HAI.out _).mono ?_; rintro e w2 ⟨rfl, rfl⟩
        go_wp2_with fail
        have HFIN := hide (show Y = some (.mk 1 (cmpJ [x0, x1, x2, x3] 4) [], rest s (i + 1)) by rw [HX.out, ← HNX.out, ← rest_tail]; try rfl)
        rw [← oth_all HB.out.wide] at HFIN
        have hz := HB.out.lt
        have HO0 := hide HB.out.new
        clear HX HNX HB
        rw [show (u4 noSet).toArray = #[.int .u64 0, .int .u64 0, .int .u64 0, .int .u64 0] from rfl] at HO0
        obtain ⟨z, hze⟩ : ∃ z, wr.heap.size = z := ⟨_, rfl⟩
        obtain ⟨V0, hV0⟩ : ∃ V, wr.alloc (.cells #[.int .u64 0, .int .u64 0, .int .u64 0, .int .u64 0] 24) = V := ⟨_, rfl⟩
        rw [hV0, hze] at HO0
        rw [hV0, hze]
        rw [hze] at hz
        clear hV0 hze
        go_loopw [13] (fun bv wv => ∃ (b : Nat) (O : List Nat), bv = .int .i64 (b : Int) ∧ b ≤ 256 ∧ Hid (othS [x0, x1, x2, x3] b = O) ∧ Hid (OtS w wv z [x0, x1, x2, x3] O)) (fun bv _ => 256 - (intOf bv).toNat)
        case atStart => exact ⟨0, noSet, rfl, by omega, hide rfl, HO0⟩
        case round =>
          clear HO0
          obtain ⟨b, O, rfl, hb, HE, HO⟩ := hrel
          have HOW := hide (show W64 O by rw [← HE.out]; exact oth_w _ _)
          obtain ⟨y0, y1, y2, y3, rfl⟩ := four_of HOW.out
          have b0 := HO.out.br.b2.cell (i := 0) rfl
          have b1 := HO.out.br.b2.cell (i := 1) rfl
          have b2 := HO.out.br.b2.cell (i := 2) rfl
          have b3 := HO.out.br.b2.cell (i := 3) rfl
          have b4 := HO.out.br.b2.cell (i := 4) rfl
          have b5 := HO.out.br.b2.cell (i := 5) rfl
          have bf := fun i => HO.out.br.b2.frozen i
          by_cases hlt : b < 256
          · have hb1 : (b : Int) < 256 := by omega
            have hwu : IntKind.u8.wrap (b : Int) = (b : Int) := by simp only [IntKind.wrap_u8]; omega
            have HSTP := hide (oth_step [x0, x1, x2, x3] _ b HE.out)
            go_wp2_with fail
            refine (rhas_any x0 x1 x2 x3 b _ HO.out.br.wide hlt).mono ?_; rintro e w5 ⟨rfl, hb5⟩
            have HO5 := hide (HO.out.low hb5)
            clear hb5 b0 b1 b2 b3 b4 b5 bf HO
            cases hv : hasS [x0, x1, x2, x3] b with
            | true =>
              have HNE := hide (show othS [x0, x1, x2, x3] (b + 1) = [y0, y1, y2, y3] by rw [HSTP.out, if_pos hv])
              clear hv
              go_wp2
              exact ⟨⟨b + 1, _, by go_num, by omega, HNE, HO5⟩, by simp [intOf]; omega⟩
            | false =>
              have HNE := hide (show othS [x0, x1, x2, x3] (b + 1) = spanS [y0, y1, y2, y3] b (b + 1 - b) by rw [HSTP.out, if_neg (by rw [hv]; decide)])
              clear hv
              have d0 := HO5.out.b3.cell (i := 0) rfl
              have d1 := HO5.out.b3.cell (i := 1) rfl
              have d2 := HO5.out.b3.cell (i := 2) rfl
              have d3 := HO5.out.b3.cell (i := 3) rfl
              go_wp2_with fail
              refine (rwith_is y0 y1 y2 y3 b b _ HOW.out hlt hlt).mono ?_; rintro e w6 ⟨⟨u0, u1, u2, u3, hu, rfl⟩, hb6⟩
              have HO6 := hide (HO5.out.low hb6)
              have HU := hide hu
              clear hb6 hu d0 d1 d2 d3 HO5
              have d0 := HO6.out.b3.cell (i := 0) rfl
              have d1 := HO6.out.b3.cell (i := 1) rfl
              have d2 := HO6.out.b3.cell (i := 2) rfl
              have d3 := HO6.out.b3.cell (i := 3) rfl
              have df := fun i => HO6.out.b3.frozen i
              go_wp2
              exact ⟨⟨b + 1, [u0, u1, u2, u3], by go_num, by omega, hide (by rw [HNE.out, HU.out]), hide (HO6.out.put (by omega))⟩, by simp [intOf]; omega⟩
          · obtain rfl : b = 256 := by omega
            have d0 := HO.out.b3.cell (i := 0) rfl
            have d1 := HO.out.b3.cell (i := 1) rfl
            have d2 := HO.out.b3.cell (i := 2) rfl
            have d3 := HO.out.b3.cell (i := 3) rfl
            have HBp := hide (HO.out.br.put HOW.out)
            have HFI := hide (show Y = some (.mk 1 [y0, y1, y2, y3] [], rest s (i + 1)) by rw [HFIN.out, HE.out])
            clear HFIN HE
            have a0 := HO.out.br.b1.cell (i := 0) rfl
            have a1 := HO.out.br.b1.cell (i := 1) rfl
            have a2 := HO.out.br.b1.cell (i := 2) rfl
            have a3 := HO.out.br.b1.cell (i := 3) rfl
            have a4 := HO.out.br.b1.cell (i := 4) rfl
            have a5 := HO.out.br.b1.cell (i := 5) rfl
            have af := fun i => HO.out.br.b1.frozen i
            go_wp2
            refine bodyPost_ret (results_nd rfl _ _ w.heap.size (ndL 1 [y0, y1, y2, y3] (.slice none 0 0)) _ rfl rfl (nd_putT HBp.out.b1 1 y0 y1 y2 y3 (.slice none 0 0)) rfl) rfl ?_
            exact ResI.yes (j := i + 1) HFI.out (by go_num) (by omega) (NdAt.leaf _ _ 1 HBp.out.wide) (BelowKeep HBp.out.below (nd_keep _ w.heap.size 1 y0 y1 y2 y3 (.slice none 0 0)) (Nat.le_refl _))
      · have hc93 : (atI s i != 93) = true := by rw [show (93 : Int) = ((93 : Nat) : Int) from rfl, bne, hq93, decide_eq_false h93]; rfl
        rw [if_pos (.inr (fun e => h93 (by
          cases hb : byI s i with
          | none => rw [hb] at e; cases e
          | some c => rw [hb] at e; have : c = 93 := e; rw [this])))] at HST
        rw [let_rest] at HST
        obtain ⟨ai, hai⟩ : ∃ a, atI s i = a := ⟨_, rfl⟩
        rw [hai] at HAI hc93
        clear h93 hq93 hai hm
        go_wp2_with fail
        refine (HAI.out _).mono ?_; rintro e w1 ⟨rfl, rfl⟩
        go_wp2_with fail
        refine (HLT.out i _ (by omega)).mono ?_; rintro e w2 hr
        obtain ⟨hb2, hr⟩ := hr.cases
        replace HB := hide (HB.out.low hb2)
        clear hb2
        obtain ⟨x0, x1, x2, x3, rfl⟩ := four_of HB.out.wide
        rcases hr with ⟨hx, rfl⟩ | ⟨a, k, hx, rfl⟩
        · rw [hx] at HST
          have HNX := hide (show (none : Option (List Nat × ByteArray)) = X from HST)
          have HNO := hide (show Y = none by rw [HX.out, ← HNX.out])
          clear hx HST HNX HL
          have a0 := HB.out.b1.cell (i := 0) rfl
          have a1 := HB.out.b1.cell (i := 1) rfl
          have a2 := HB.out.b1.cell (i := 2) rfl
          have a3 := HB.out.b1.cell (i := 3) rfl
          have a4 := HB.out.b1.cell (i := 4) rfl
          have a5 := HB.out.b1.cell (i := 5) rfl
          have b0 := HB.out.b2.cell (i := 0) rfl
          have b1 := HB.out.b2.cell (i := 1) rfl
          have b2 := HB.out.b2.cell (i := 2) rfl
          have b3 := HB.out.b2.cell (i := 3) rfl
          have b4 := HB.out.b2.cell (i := 4) rfl
          have b5 := HB.out.b2.cell (i := 5) rfl
          have af := fun i => HB.out.b1.frozen i
          go_wp2
          refine bodyPost_ret (results_nd rfl _ _ w.heap.size (ndL 1 [x0, x1, x2, x3] (.slice none 0 0)) _ rfl rfl (nd_putT HB.out.b1 1 x0 x1 x2 x3 (.slice none 0 0)) rfl) rfl ?_
          exact ResI.no HNO.out (NdAt.leaf _ _ 1 HB.out.wide) (BelowKeep HB.out.below (nd_keep _ w.heap.size 1 x0 x1 x2 x3 (.slice none 0 0)) (Nat.le_refl _))
        · have hlb := let_ib hx
          rw [hx] at HST
          simp only [Option.map_some] at HST
          rw [isB_rest] at HST
          have HQ := hide (at_eq s k 45)
          have hq45 := at_eq s k 45
          obtain ⟨ak, hak⟩ : ∃ a, atI s k = a := ⟨_, rfl⟩
          have HAK := hide (fun W => HAT.out k W)
          rw [hak] at HAK hq45
          clear hx HL hak hc93
          go_wp2_with fail
          refine (HAK.out _).mono ?_; rintro e w3 ⟨rfl, rfl⟩
          by_cases h45 : byI s k = some 45
          · rw [decide_eq_true h45] at hq45 HST
            rw [if_pos rfl, rest_tail, let_rest] at HST
            clear h45
            go_wp2_with fail
            refine (HLT.out (k + 1) _ (by omega)).mono ?_; rintro e w4 hr
            obtain ⟨hb4, hr⟩ := hr.cases
            replace HB := hide (HB.out.low hb4)
            clear hb4
            rcases hr with ⟨hx, rfl⟩ | ⟨b, k2, hx, rfl⟩
            · rw [hx] at HST
              have HNX := hide (show (none : Option (List Nat × ByteArray)) = X from HST)
              have HNO := hide (show Y = none by rw [HX.out, ← HNX.out])
              clear hx HST HNX
              have a0 := HB.out.b1.cell (i := 0) rfl
              have a1 := HB.out.b1.cell (i := 1) rfl
              have a2 := HB.out.b1.cell (i := 2) rfl
              have a3 := HB.out.b1.cell (i := 3) rfl
              have a4 := HB.out.b1.cell (i := 4) rfl
              have a5 := HB.out.b1.cell (i := 5) rfl
              have b0 := HB.out.b2.cell (i := 0) rfl
              have b1 := HB.out.b2.cell (i := 1) rfl
              have b2 := HB.out.b2.cell (i := 2) rfl
              have b3 := HB.out.b2.cell (i := 3) rfl
              have b4 := HB.out.b2.cell (i := 4) rfl
              have b5 := HB.out.b2.cell (i := 5) rfl
              have af := fun i => HB.out.b1.frozen i
              go_wp2
              refine bodyPost_ret (results_nd rfl _ _ w.heap.size (ndL 1 [x0, x1, x2, x3] (.slice none 0 0)) _ rfl rfl (nd_putT HB.out.b1 1 x0 x1 x2 x3 (.slice none 0 0)) rfl) rfl ?_
              exact ResI.no HNO.out (NdAt.leaf _ _ 1 HB.out.wide) (BelowKeep HB.out.below (nd_keep _ w.heap.size 1 x0 x1 x2 x3 (.slice none 0 0)) (Nat.le_refl _))
            · have hlb2 := let_ib hx
              rw [hx] at HST
              simp only [Option.map_some] at HST
              clear hx
              by_cases hba : b < a
              · rw [if_pos hba] at HST
                have hba2 : (b : Int) < (a : Int) := by omega
                have HNX := hide (show (none : Option (List Nat × ByteArray)) = X from HST)
                have HNO := hide (show Y = none by rw [HX.out, ← HNX.out])
                clear HST HNX
                have a0 := HB.out.b1.cell (i := 0) rfl
                have a1 := HB.out.b1.cell (i := 1) rfl
                have a2 := HB.out.b1.cell (i := 2) rfl
                have a3 := HB.out.b1.cell (i := 3) rfl
                have a4 := HB.out.b1.cell (i := 4) rfl
                have a5 := HB.out.b1.cell (i := 5) rfl
                have b0 := HB.out.b2.cell (i := 0) rfl
                have b1 := HB.out.b2.cell (i := 1) rfl
                have b2 := HB.out.b2.cell (i := 2) rfl
                have b3 := HB.out.b2.cell (i := 3) rfl
                have b4 := HB.out.b2.cell (i := 4) rfl
                have b5 := HB.out.b2.cell (i := 5) rfl
                have af := fun i => HB.out.b1.frozen i
                go_wp2
                refine bodyPost_ret (results_nd rfl _ _ w.heap.size (ndL 1 [x0, x1, x2, x3] (.slice none 0 0)) _ rfl rfl (nd_putT HB.out.b1 1 x0 x1 x2 x3 (.slice none 0 0)) rfl) rfl ?_
                exact ResI.no HNO.out (NdAt.leaf _ _ 1 HB.out.wide) (BelowKeep HB.out.below (nd_keep _ w.heap.size 1 x0 x1 x2 x3 (.slice none 0 0)) (Nat.le_refl _))
              · rw [if_neg hba] at HST
                have hba2 : ¬ (b : Int) < (a : Int) := by omega
                have c0 := HB.out.b2.cell (i := 0) rfl
                have c1 := HB.out.b2.cell (i := 1) rfl
                have c2 := HB.out.b2.cell (i := 2) rfl
                have c3 := HB.out.b2.cell (i := 3) rfl
                have c4 := HB.out.b2.cell (i := 4) rfl
                have c5 := HB.out.b2.cell (i := 5) rfl
                have cf := fun i => HB.out.b2.frozen i
                go_wp2_with fail
                refine (rwith_is x0 x1 x2 x3 a b _ HB.out.wide (by omega) (by omega)).mono ?_; rintro e w9 ⟨⟨y0, y1, y2, y3, hy, rfl⟩, hb9⟩
                have HB9 := hide (HB.out.low hb9)
                have HW9 := hide (show W64 [y0, y1, y2, y3] by rw [← hy]; exact spanS_w HB.out.wide _ _)
                have HY := hide hy
                clear hb9 hy c0 c1 c2 c3 c4 c5 cf
                have c0 := HB9.out.b2.cell (i := 0) rfl
                have c1 := HB9.out.b2.cell (i := 1) rfl
                have c2 := HB9.out.b2.cell (i := 2) rfl
                have c3 := HB9.out.b2.cell (i := 3) rfl
                have c4 := HB9.out.b2.cell (i := 4) rfl
                have c5 := HB9.out.b2.cell (i := 5) rfl
                have cf := fun i => HB9.out.b2.frozen i
                go_wp2_with fail
                go_roundw
                case rel =>
                  have hr1 : Hid (braL f (decide (m + 1 = 0)) (rest s k2) [y0, y1, y2, y3] = X) := hide (by rw [show decide (m + 1 = 0) = false from rfl, ← HY.out]; exact HST)
                  exact ⟨m + 1, k2, f, [y0, y1, y2, y3], by go_num, rfl, by omega, by omega, by omega, hr1, hide (HB9.out.put HW9.out)⟩
                case measure => simp [intOf]; omega
          · rw [decide_eq_false h45] at hq45 HST
            rw [if_neg (by decide)] at HST
            rw [show 1 = a + 1 - a by omega] at HST
            clear h45
            have c0 := HB.out.b2.cell (i := 0) rfl
            have c1 := HB.out.b2.cell (i := 1) rfl
            have c2 := HB.out.b2.cell (i := 2) rfl
            have c3 := HB.out.b2.cell (i := 3) rfl
            have c4 := HB.out.b2.cell (i := 4) rfl
            have c5 := HB.out.b2.cell (i := 5) rfl
            have cf := fun i => HB.out.b2.frozen i
            go_wp2_with fail
            refine (rwith_is x0 x1 x2 x3 a a _ HB.out.wide (by omega) (by omega)).mono ?_; rintro e w9 ⟨⟨y0, y1, y2, y3, hy, rfl⟩, hb9⟩
            have HB9 := hide (HB.out.low hb9)
            have HW9 := hide (show W64 [y0, y1, y2, y3] by rw [← hy]; exact spanS_w HB.out.wide _ _)
            have HY := hide hy
            clear hb9 hy c0 c1 c2 c3 c4 c5 cf
            have c0 := HB9.out.b2.cell (i := 0) rfl
            have c1 := HB9.out.b2.cell (i := 1) rfl
            have c2 := HB9.out.b2.cell (i := 2) rfl
            have c3 := HB9.out.b2.cell (i := 3) rfl
            have c4 := HB9.out.b2.cell (i := 4) rfl
            have c5 := HB9.out.b2.cell (i := 5) rfl
            have cf := fun i => HB9.out.b2.frozen i
            go_wp2_with fail
            go_roundw
            case rel =>
              have hr1 : Hid (braL f (decide (m + 1 = 0)) (rest s k) [y0, y1, y2, y3] = X) := hide (by rw [show decide (m + 1 = 0) = false from rfl, ← HY.out]; exact HST)
              exact ⟨m + 1, k, f, [y0, y1, y2, y3], by go_num, rfl, by omega, by omega, by omega, hr1, hide (HB9.out.put HW9.out)⟩
            case measure => simp [intOf]; omega
end Go.Proofs.YtfamoikmfbpigaaDoor
