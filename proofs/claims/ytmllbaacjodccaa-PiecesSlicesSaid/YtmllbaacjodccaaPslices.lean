/- The walk of limnerlaw03.PiecesSlices. -/
import Derived.Test.YtmllbaacjodccaaPback
import Derived.Deep.QuietTactic
namespace Go.Proofs.Ytmllbaacjodccaa
open Go.RowKit

/-- A call of a function, as one step of a region that draws its order. -/
theorem step_fn1 {ops : Array Oper} {o : Oper} {a : Act} {W : World} {K : Act → World → Prop} {Q : Exit → Act → World → Prop} {E : Prop}
    (hgd : o.guard = none) (f : Nat) (fn : Func) (hf : Try.prog.funcs[f]? = some fn) (hnm : ¬ fn.name = "runtime.NumGoroutine") (hbd : ¬ fn.body = Option.none) (x : Operand) (ty : Array TypeId) (hop : o.op = Op.call { callee := Callee.value (.func f), args := #[x], argTypes := ty })
    (vx : Value) (hx : a.eval x = vx) (Post : Value → World → Prop) (hc : Calls Try.prog f #[vx] W fun e w' => ∃ v, e = .returned v ∧ Post v w')
    (hK : ∀ v w', Post v w' → K (a.put o.dst v) w') :
    if Region.wanted o (yielded ops a.tmps) = true then Oper.wp Try.prog o a W K Q else E := by
  have hw : Region.wanted o (yielded ops a.tmps) = true := by simp [Region.wanted, hgd]
  rw [if_pos hw]
  unfold Oper.wp
  have he : a.eval (Operand.func f) = Value.func (Fn.func f) #[] #[] := rfl
  simp [execOp, hop, resolve, invoke, hx, he, Result.andThen, Deferred.ofValue, callFunc, hf, hnm, hbd]
  refine hc.mono ?_
  rintro e w' ⟨v, rfl, hp⟩
  exact hK v w' hp
/-- A call of a function, as one step of a region that draws its order. -/
theorem step_fn3 {ops : Array Oper} {o : Oper} {a : Act} {W : World} {K : Act → World → Prop} {Q : Exit → Act → World → Prop} {E : Prop}
    (hgd : o.guard = none) (f : Nat) (fn : Func) (hf : Try.prog.funcs[f]? = some fn) (hnm : ¬ fn.name = "runtime.NumGoroutine") (hbd : ¬ fn.body = Option.none) (x y z : Operand) (ty : Array TypeId) (hop : o.op = Op.call { callee := Callee.value (.func f), args := #[x, y, z], argTypes := ty })
    (vx vy vz : Value) (hx : a.eval x = vx) (hy : a.eval y = vy) (hz : a.eval z = vz) (Post : Value → World → Prop) (hc : Calls Try.prog f #[vx, vy, vz] W fun e w' => ∃ v, e = .returned v ∧ Post v w')
    (hK : ∀ v w', Post v w' → K (a.put o.dst v) w') :
    if Region.wanted o (yielded ops a.tmps) = true then Oper.wp Try.prog o a W K Q else E := by
  have hw : Region.wanted o (yielded ops a.tmps) = true := by simp [Region.wanted, hgd]
  rw [if_pos hw]
  unfold Oper.wp
  have he : a.eval (Operand.func f) = Value.func (Fn.func f) #[] #[] := rfl
  simp [execOp, hop, resolve, invoke, hx, hy, hz, he, Result.andThen, Deferred.ofValue, callFunc, hf, hnm, hbd]
  refine hc.mono ?_
  rintro e w' ⟨v, rfl, hp⟩
  exact hK v w' hp
/-- The strings that a slice holds. -/
def LStrs (W : World) (v : Value) (zs : List ByteArray) : Prop :=
  ∃ A cap, v = .slice A zs.length cap ∧ zs.length ≤ maxLen ∧ ∀ j, j < zs.length → ∃ b o, A = some ⟨b, o, none⟩ ∧ W.cell? ⟨b, o + j, none⟩ = some (.string (zs.getD j ByteArray.empty)) ∧ (zs.getD j ByteArray.empty).size ≤ maxLen
theorem len_same (p : Value) (zs : List ByteArray) (w : World) (h : TextAt w p zs) : Calls Try.prog 13 #[p] w fun e w' => ∃ v, e = .returned v ∧ (v = .int .i64 (total zs : Nat) ∧ w = w') := by
  have H := hide h
  obtain ⟨b, v, rfl, -, h0, h1, h2, hs⟩ := h
  clear hs
  go_enter Try.func13, Try.ntmps13
  go_wp2_with (go_at_call 24; refine (none_text _ zs _ H.out).mono ?_; rintro e w1 ⟨rfl, rfl⟩)
  go_ret
  exact ⟨_, rfl, rfl, rfl⟩
theorem Insert_val (p : Value) (zs : List ByteArray) (a : Nat) (s : ByteArray) (w : World) (h : TextAt w p zs) (ha : a ≤ total zs) (hs : total zs + s.size ≤ 16384) (hl : zs.length ≤ 1000) :
    Calls Try.prog 10 #[p, .int .i64 a, .string s] w fun e w' => ∃ v, e = .returned v ∧ ∃ p', v = .tuple #[p', .int .i64 0] ∧ TextAt w' p' (insP zs a s) ∧ Below w.heap.size w w' := by
  refine (Insert_any p zs a s w h ha hs hl).mono ?_
  rintro e w' ⟨p', rfl, h1, h2⟩
  exact ⟨_, rfl, p', rfl, h1, h2⟩
theorem Slice_is (p : Value) (zs : List ByteArray) (f t : Nat) (f' t' : Int) (s : ByteArray) (w : World) (h : TextAt w p zs) (hf : (f : Int) = f') (hT : (t : Int) = t') (hft : f ≤ t) (ht : t ≤ total zs) (hs : total zs ≤ 16384) (hl : zs.length ≤ 1000) (hj : joined (sliceP zs f t) = s) :
    Calls Try.prog 14 #[p, .int .i64 f', .int .i64 t'] w fun e w' => e = .returned (.string s) ∧ Below w.heap.size w w' := by
  subst hf hT
  exact Slice_any p zs f t s w h hft ht hs hl hj
theorem len_cutAB : ∀ (zs : List ByteArray) (a : Nat), (cutA zs a).length + (cutB zs a).length ≤ zs.length + 1
  | [], a => by simp [cutA, cutB]
  | z :: r, a => by
    unfold cutA cutB
    by_cases h : a < z.size
    · rw [if_pos h, if_pos h]
      have := one_le (z.extract 0 a)
      simp only [List.length_cons]; omega
    · rw [if_neg h, if_neg h]
      have := len_cutAB r (a - z.size)
      simp only [List.length_cons]; omega
theorem len_ins2 (zs : List ByteArray) (a : Nat) (s : ByteArray) : (insP zs a s).length ≤ zs.length + 2 := by
  have h1 := len_cutAB zs a
  have h3 := one_le s
  simp only [insP, List.length_append]; omega
/-- Slices that stand side by side. -/
theorem side_by_side (zs : List ByteArray) (a b n : Nat) (h1 : a ≤ b) (h2 : b ≤ n) (hn : n = total zs) : joined (sliceP zs 0 a) ++ joined (sliceP zs a b) ++ joined (sliceP zs b n) = joined zs := by
  have hj : ∀ l : List ByteArray, (joined l).data = (jl l).toArray := fun _ => rfl
  have hl := jl_length zs
  apply ByteArray.ext
  rw [ByteArray.data_append, ByteArray.data_append, hj, hj, hj, hj, jl_slice, jl_slice, jl_slice]
  apply Array.ext'
  simp only [Array.toList_append, List.drop_zero, Nat.sub_zero]
  rw [show ((jl zs).drop b).take (n - b) = (jl zs).drop b from List.take_of_length_le (by rw [List.length_drop]; omega)]
  have e : (jl zs).take a ++ ((jl zs).drop a).take (b - a) = (jl zs).take b := by
    rw [← List.drop_take]
    have := List.take_append_drop a ((jl zs).take b)
    rw [List.take_take, Nat.min_eq_left h1] at this
    exact this
  rw [e, List.take_append_drop]
theorem joined_len (zs : List ByteArray) : (joined zs).size = total zs := joined_size zs
theorem below_dn (w : World) (n : Nat) : Below w.heap.size w (w.drewN n) := ⟨rfl, rfl, rfl, Nat.le_refl _, fun _ _ => rfl⟩
/-- The three numbers' cells. -/
def Three (W : World) (B : Nat) (x0 x1 x2 : Int) : Prop := W.cell? ⟨B, 0, none⟩ = some (.int .u16 x0) ∧ W.cell? ⟨B, 1, none⟩ = some (.int .u16 x1) ∧ W.cell? ⟨B, 2, none⟩ = some (.int .u16 x2)
theorem Three.below {A W : World} {B : Nat} {x0 x1 x2 : Int} (h : Three A B x0 x1 x2) (hb : Below A.heap.size A W) : Three W B x0 x1 x2 := by
  have hlt : B < A.heap.size := World.block_lt_of_cell? _ _ h.1
  exact ⟨(hb.cell (p := ⟨B, 0, none⟩) hlt).trans h.1, (hb.cell (p := ⟨B, 1, none⟩) hlt).trans h.2.1, (hb.cell (p := ⟨B, 2, none⟩) hlt).trans h.2.2⟩
theorem Three.new (w : World) (x0 x1 x2 : Int) : Three (w.alloc (.cells #[.int .u16 x0, .int .u16 x1, .int .u16 x2] 36)) w.heap.size x0 x1 x2 := by
  refine ⟨by simp, by simp, by simp⟩
theorem Three.any {W : World} {B : Nat} {x0 x1 x2 : Int} (h : Three W B x0 x1 x2) (k : Nat) (h0 : 0 ≤ x0 ∧ x0 ≤ 65535) (h1 : 0 ≤ x1 ∧ x1 ≤ 65535) (h2 : 0 ≤ x2 ∧ x2 ≤ 65535) :
    ∃ (r : Nat) (x : Int), (k : Int) % 3 = (r : Int) ∧ r < 3 ∧ W.cell? ⟨B, r, none⟩ = some (.int .u16 x) ∧ 0 ≤ x ∧ x ≤ 65535 := by
  have : k % 3 = 0 ∨ k % 3 = 1 ∨ k % 3 = 2 := by omega
  rcases this with e | e | e
  · exact ⟨0, x0, by omega, by omega, h.1, h0.1, h0.2⟩
  · exact ⟨1, x1, by omega, by omega, h.2.1, h1.1, h1.2⟩
  · exact ⟨2, x2, by omega, by omega, h.2.2, h2.1, h2.2⟩

set_option maxHeartbeats 4000000 in
set_option maxRecDepth 100000 in
theorem PiecesSlices_any (v : Value) (zs : List ByteArray) (x0 x1 x2 : Int) (w : World) (h : LStrs w v zs) (h0 : 0 ≤ x0 ∧ x0 ≤ 65535) (h1 : 0 ≤ x1 ∧ x1 ≤ 65535) (h2 : 0 ≤ x2 ∧ x2 ≤ 65535) :
    Calls Try.prog 4 #[v, .agg #[.int .u16 x0, .int .u16 x1, .int .u16 x2]] w fun e w' => e = .returned (.bool true) ∧ Below w.heap.size w w' := by
  obtain ⟨A, cap, rfl, hmax, hc⟩ := h
  have HC := hide hc
  clear hc
  have hmx := hmax
  unfold maxLen at hmx
  have HB := hide (show Below w.heap.size w (w.alloc (.cells #[.int .u16 x0, .int .u16 x1, .int .u16 x2] 36)) from (Below.refl _ _).alloc (Nat.le_refl _) _)
  have H3 := hide (Three.new w x0 x1 x2)
  by_cases hsm : 40 < zs.length
  · go_enter Try.func4, Try.ntmps4
    go_wp2_with fail
    refine (put_any _).mono ?_; rintro e w1 ⟨rfl, b1⟩
    go_wp2
    go_ret
    exact ⟨rfl, HB.out.trans (b1.mono HB.out.size)⟩
  go_enter Try.func4, Try.ntmps4
  go_wp2_with fail
  refine (new_any ⟨#[]⟩ _ (by decide)).mono ?_; rintro e w1 ⟨pt, rfl, t1, b1⟩
  replace HB := hide (HB.out.trans (b1.mono HB.out.size))
  replace H3 := hide (H3.out.below b1)
  have TT := hide t1
  clear t1 b1
  go_wp2_with fail
  go_loopw [5, 6, 7] (fun t e i wr => ∃ (k : Nat) (zt : List ByteArray), k ≤ zs.length ∧ e = .int .i64 0 ∧ i = .int .i64 k ∧ Hid (TextAt wr t zt) ∧ total zt ≤ 100 * k ∧ zt.length ≤ 2 * k ∧ Hid (Three wr w.heap.size x0 x1 x2) ∧ Hid (Below w.heap.size w wr)) (fun _ _ i _ => zs.length - (intOf i).toNat)
  case atStart => exact ⟨0, _, by omega, rfl, rfl, TT, by decide +kernel, by decide +kernel, H3, HB⟩
  case round =>
    obtain ⟨k, zt, hk, rfl, rfl, HTr, htot, htl, H3r, HBr⟩ := hrel
    by_cases hlt : k < zs.length
    · obtain ⟨b, o, rfl, hcell, hzm⟩ := HC.out k hlt
      have hcell' := (HBr.out.cell (p := ⟨b, o + k, none⟩) (World.block_lt_of_cell? _ _ hcell)).trans hcell
      generalize zs.getD k ByteArray.empty = z at *
      unfold maxLen at hzm
      by_cases hz : 100 < z.size
      · go_wp2_with fail
        refine (put_any _).mono ?_; rintro e w2 ⟨rfl, b1⟩
        go_wp2
        go_ret
        exact ⟨rfl, HBr.out.trans (b1.mono HBr.out.size)⟩
      · obtain ⟨r, x, hr, hr3, hcx, hx0, hx1⟩ := H3r.out.any k h0 h1 h2
        obtain ⟨tt, htt⟩ : ∃ tt : Nat, total zt + 1 = tt := ⟨_, rfl⟩
        obtain ⟨a, ha⟩ : ∃ a : Nat, x % (tt : Int) = (a : Int) := ⟨(x % (tt : Int)).toNat, by have := Int.emod_nonneg x (show (tt : Int) ≠ 0 by omega); omega⟩
        have ha9 : a ≤ total zt := by have := Int.emod_lt_of_pos x (show 0 < (tt : Int) by omega); omega
        have hta : Int.tmod x (tt : Int) = (a : Int) := by rw [Int.tmod_eq_emod_of_nonneg hx0]; exact ha
        have hwx : IntKind.i64.wrap x = x := Go.wrap_small _ (by omega) (by omega)
        have hwt : IntKind.i64.wrap ((total zt : Int) + 1) = (tt : Int) := by rw [Go.wrap_small _ (by omega) (by omega)]; omega
        have htn : ¬ (tt : Int) = 0 := by omega
        have htn2 : ¬ tt = 0 := by omega
        have HIN := hide (show total zt + z.size ≤ 16384 by omega)
        have HLN := hide (show zt.length ≤ 1000 by omega)
        have HA9 := hide ha9
        clear htt
        have htr : Int.tmod (k : Int) 3 = (r : Int) := by rw [Int.tmod_eq_emod_of_nonneg (by omega)]; exact hr
        have hr3i : (r : Int) < 3 := by omega
        have HTd := hide (HTr.out.below (below_drewP (Below.refl _ _)))
        go_wp2_with fail
        go_region_law (first
          | (refine step_fn1 rfl 13 _ Try.func13 (by decide) (by simp [Try.f13]) (.tmp 41) _ rfl _ (by simp [Act.eval, Act.put]) _ (len_same _ zt _ HTd.out) ?_; rintro v2 w2 ⟨rfl, rfl⟩)
          | (refine step_fn3 rfl 10 _ Try.func10 (by decide) (by simp [Try.f10]) (.tmp 35) (.tmp 44) (.tmp 48) _ rfl _ (.int .i64 (a : Int)) (.string z) (by simp [Act.eval, Act.put]) (by simp [Act.eval, Act.put]) (by simp [Act.eval, Act.put]) _ (Insert_val _ zt a z _ HTd.out HA9.out HIN.out HLN.out) ?_; rintro v3 w3 ⟨p', rfl, tp, bp⟩; have TP := hide tp; have BP := hide bp; clear tp bp))
        all_goals go_wp2
        all_goals exact ⟨⟨k + 1, _, by omega, rfl, by go_num, TP, by rw [total_ins]; omega, by have := len_ins2 zt a z; omega, hide ((H3r.out.below (below_drewP (Below.refl _ _))).below BP.out), hide ((below_drewP HBr.out).trans (BP.out.mono HBr.out.size))⟩, by simp [intOf]; omega⟩
    · obtain rfl : k = zs.length := by omega
      obtain ⟨tt, htt⟩ : ∃ tt : Nat, total zt + 1 = tt := ⟨_, rfl⟩
      obtain ⟨a, ha⟩ : ∃ a : Nat, x0 % (tt : Int) = (a : Int) := ⟨(x0 % (tt : Int)).toNat, by have := Int.emod_nonneg x0 (show (tt : Int) ≠ 0 by omega); omega⟩
      obtain ⟨b, hb⟩ : ∃ b : Nat, x1 % (tt : Int) = (b : Int) := ⟨(x1 % (tt : Int)).toNat, by have := Int.emod_nonneg x1 (show (tt : Int) ≠ 0 by omega); omega⟩
      have ha9 : a ≤ total zt := by have := Int.emod_lt_of_pos x0 (show 0 < (tt : Int) by omega); omega
      have hb9 : b ≤ total zt := by have := Int.emod_lt_of_pos x1 (show 0 < (tt : Int) by omega); omega
      have hta : Int.tmod x0 (tt : Int) = (a : Int) := by rw [Int.tmod_eq_emod_of_nonneg h0.1]; exact ha
      have htb : Int.tmod x1 (tt : Int) = (b : Int) := by rw [Int.tmod_eq_emod_of_nonneg h1.1]; exact hb
      have hwx : IntKind.i64.wrap x0 = x0 := Go.wrap_small _ (by omega) (by omega)
      have hwy : IntKind.i64.wrap x1 = x1 := Go.wrap_small _ (by omega) (by omega)
      have htz : total zt ≤ 4000 := by omega
      have hwt : IntKind.i64.wrap ((total zt : Int) + 1) = (tt : Int) := by rw [Go.wrap_small _ (by omega) (by omega)]; omega
      have hwt2 : (total zt : Int) + 1 = (tt : Int) := by omega
      have htn : ¬ (tt : Int) = 0 := by omega
      have htn2 : ¬ tt = 0 := by omega
      obtain ⟨lo, hlo⟩ : ∃ lo : Nat, min (a : Int) (b : Int) = (lo : Int) := ⟨min a b, by omega⟩
      obtain ⟨hi, hhi⟩ : ∃ hi : Nat, max (a : Int) (b : Int) = (hi : Int) := ⟨max a b, by omega⟩
      have hlh : lo ≤ hi := by omega
      have hhn : hi ≤ total zt := by omega
      have HLN := hide (show zt.length ≤ 1000 by omega)
      have HTZ := hide htz
      have HLH := hide hlh
      have HHN := hide hhn
      have hsbs := side_by_side zt lo hi (total zt) hlh hhn rfl
      have hjl := joined_len zt
      obtain ⟨X, hX⟩ : ∃ X, joined (sliceP zt 0 lo) = X := ⟨_, rfl⟩
      obtain ⟨Y, hY⟩ : ∃ X, joined (sliceP zt lo hi) = X := ⟨_, rfl⟩
      obtain ⟨Z, hZ⟩ : ∃ X, joined (sliceP zt hi (total zt)) = X := ⟨_, rfl⟩
      obtain ⟨J, hJ⟩ : ∃ X, joined zt = X := ⟨_, rfl⟩
      rw [hX, hY, hZ, hJ] at hsbs
      rw [hJ] at hjl
      have hsz : X.size + Y.size + Z.size = J.size := by rw [← hsbs]; simp [ByteArray.size_append]
      have hz1 : X.size + Y.size ≤ 4000 := by omega
      have hz2 : (X ++ Y).size + Z.size ≤ 4000 := by rw [ByteArray.size_append]; omega
      have HX := hide hX
      have HY := hide hY
      have HZ := hide hZ
      have HJ := hide hJ
      clear hX hY hZ hJ htt ha hb ha9 hb9
      obtain ⟨c0, c1, c2⟩ := H3r.out
      go_wp2_with fail
      refine (len_same _ zt _ HTr.out).mono ?_; rintro e w2 ⟨v2, rfl, rfl, rfl⟩
      go_wp2_with fail
      go_quiet (fail)
      go_wp2_with fail
      have HTd := hide (fun n9 => HTr.out.below (below_dn wr n9))
      have HBd := hide (fun n9 => HBr.out.trans ((below_dn wr n9).mono HBr.out.size))
      refine (Slice_is _ zt 0 lo 0 lo X _ (HTd.out _) rfl rfl (by omega) (by omega) (by omega) HLN.out HX.out).mono ?_; rintro e w3 ⟨rfl, b1⟩
      replace HTr := hide ((HTd.out _).below b1)
      replace HBr := hide ((HBd.out _).trans (b1.mono (HBd.out _).size))
      clear b1
      go_wp2_with fail
      refine (Slice_is _ zt lo hi lo hi Y _ HTr.out rfl rfl HLH.out HHN.out (by omega) HLN.out HY.out).mono ?_; rintro e w4 ⟨rfl, b1⟩
      replace HTr := hide (HTr.out.below b1)
      replace HBr := hide (HBr.out.trans (b1.mono HBr.out.size))
      clear b1
      go_wp2_with fail
      refine (Slice_is _ zt hi (total zt) hi (total zt : Nat) Z _ HTr.out rfl rfl HHN.out (by omega) (by omega) HLN.out HZ.out).mono ?_; rintro e w5 ⟨rfl, b1⟩
      replace HTr := hide (HTr.out.below b1)
      replace HBr := hide (HBr.out.trans (b1.mono HBr.out.size))
      clear b1
      go_wp2_with fail
      refine (str_is _ zt J _ HTr.out (by omega) (by have := HLN.out; omega) HJ.out).mono ?_; rintro e w6 ⟨rfl, b1⟩
      replace HTr := hide (HTr.out.below b1)
      replace HBr := hide (HBr.out.trans (b1.mono HBr.out.size))
      clear b1
      go_wp2_with fail
      refine (str_is _ zt J _ HTr.out (by omega) (by have := HLN.out; omega) HJ.out).mono ?_; rintro e w7 ⟨rfl, b1⟩
      replace HTr := hide (HTr.out.below b1)
      replace HBr := hide (HBr.out.trans (b1.mono HBr.out.size))
      clear b1
      go_wp2_with fail
      refine (put_any _).mono ?_; rintro e w8 ⟨rfl, b1⟩
      replace HBr := hide (HBr.out.trans (b1.mono HBr.out.size))
      go_wp2
      go_ret
      exact ⟨rfl, HBr.out⟩
end Go.Proofs.Ytmllbaacjodccaa
