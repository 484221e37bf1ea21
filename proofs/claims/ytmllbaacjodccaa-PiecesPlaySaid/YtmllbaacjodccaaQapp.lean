/- Appending strings to a slice of strings: to one that the call made, to a front of one that goes on with the same strings, to one without room. -/
import Derived.Test.YtmllbaacjodccaaQnew
import Derived.ArgAppend
import Derived.Deep.RegionLawGrows
namespace Go.Proofs.Ytmllbaacjodccaa
open Go.RowKit
variable {R : Nat → Prop}

theorem setCell_self (w : World) (a : Addr) (v : Value) (h : w.cell? a = some v) : w.setCell a v = w := by
  obtain ⟨b, o, spot⟩ := a
  have hs : spot = none := by simpa using World.cell?_spot h
  subst hs
  unfold World.setCell
  have e : (w.heap.modify b fun | .cells c elem frozen => .cells (if (⟨b, o, none⟩ : Addr).spot.isSome then c else c.setIfInBounds o v) elem frozen | x => x) = w.heap := by
    apply Array.ext
    · simp
    · intro i h1 h2
      simp only [Array.getElem_modify]
      split
      · rename_i hi
        subst hi
        unfold World.cell? at h
        rw [Array.getElem?_eq_getElem (by simpa using h2)] at h
        split
        · rename_i c el fz hc
          simp [hc] at h ⊢
          refine Array.ext_getElem? fun j => ?_
          rw [Array.getElem?_setIfInBounds]
          split
          · rename_i e
            subst e
            have hlt := (Array.getElem?_eq_some_iff.1 h).1
            simp only [hlt, if_true]
            exact h.symm
          · rfl
        · rfl
      · rfl
  exact congrArg (fun x => ({ w with heap := x } : World)) e
theorem setCells_self (b : Nat) : ∀ (vs : List Value) (o : Nat) (w : World), (∀ j v, vs[j]? = some v → w.cell? ⟨b, o + j, none⟩ = some v) → w.setCells b o vs = w
  | [], _, _, _ => rfl
  | v :: r, o, w, h => by
    show (w.setCell ⟨b, o, none⟩ v).setCells b (o + 1) r = w
    rw [setCell_self w ⟨b, o, none⟩ v (h 0 v rfl)]
    exact setCells_self b r (o + 1) w (fun j u hj => by have := h (j + 1) u hj; rw [show o + (j + 1) = o + 1 + j by omega] at this; exact this)
/-- What append may do to a slice of strings zs, to which bs are to be appended. -/
def App (R : Nat → Prop) (W : World) (B : Nat) (v : Value) (zs bs : List ByteArray) : Prop :=
  (∃ A, v = .slice A 0 0 ∧ zs = []) ∨ ∃ g off cap, v = .slice (some ⟨g, off, none⟩) zs.length cap ∧ g < W.heap.size ∧ zs.length ≤ cap ∧ (∀ j, j < zs.length → W.cell? ⟨g, off + j, none⟩ = some (.string (zs[j]?.getD ByteArray.empty))) ∧
    (zs.length + bs.length ≤ cap → (∀ j, j < zs.length + bs.length → W.frozen? ⟨g, off + j, none⟩ = false) ∧ TyR R W g ∧
      ((B ≤ g ∧ ∀ j, j < bs.length → (W.cell? ⟨g, off + zs.length + j, none⟩).isSome = true) ∨ ∀ j, j < bs.length → W.cell? ⟨g, off + zs.length + j, none⟩ = some (.string (bs[j]?.getD ByteArray.empty))))
theorem App.below {A W : World} {B : Nat} {v : Value} {zs bs : List ByteArray} (h : App R A B v zs bs) (hb : Below A.heap.size A W) : App R W B v zs bs := by
  rcases h with h | ⟨g, off, cap, e, hg, hl, h1, h2⟩
  · exact .inl h
  · have hc : ∀ j, W.cell? ⟨g, j, none⟩ = A.cell? ⟨g, j, none⟩ := fun j => hb.cell (p := ⟨g, j, none⟩) hg
    refine .inr ⟨g, off, cap, e, Nat.lt_of_lt_of_le hg hb.size, hl, fun j hj => by rw [hc]; exact h1 j hj, fun hr => ?_⟩
    obtain ⟨hf, ht, h3⟩ := h2 hr
    refine ⟨fun j hj => (hb.frozen (p := ⟨g, off + j, none⟩) hg).trans (hf j hj), ht.below hb, ?_⟩
    rcases h3 with ⟨ha, h3⟩ | h3
    · exact .inl ⟨ha, fun j hj => by rw [hc]; exact h3 j hj⟩
    · exact .inr fun j hj => by rw [hc]; exact h3 j hj
theorem strs_cells {W : World} {b o n cap : Nat} {zs : List ByteArray} (h : Strs R W (.slice (some ⟨b, o, none⟩) n cap) zs) : ∀ j u, (zs.map Value.string)[j]? = some u → W.cell? (Addr.add ⟨b, o, none⟩ j) = some u := by
  intro j u hu
  obtain ⟨A, cap', e, hc, hs⟩ := h
  have hj : j < zs.length := by simpa using (List.getElem?_eq_some_iff.1 hu).1
  obtain ⟨b', o', e', _, hcell⟩ := hs j hj
  injection e with e1 e2 e3
  subst e1
  injection e' with e'
  injection e' with e1 e2
  subst e1 e2
  rw [Addr.add_lit, hcell]
  simpa [List.getElem?_eq_getElem hj] using hu
theorem own_strs {W : World} {B n : Nat} {v : Value} {zs : List ByteArray} (hn : n = zs.length) (hR : Lows R B) (h : W.ownsRow B 9 1 v n (zs.map Value.string)) : Strs R W v zs := by
  subst hn
  rcases h.2 with ⟨e, h0⟩ | ⟨g, cap, cur, rfl, hg, hh, h1, h2, h3, h4⟩
  · exact ⟨none, 0, by rw [e, h0], by omega, fun j hj => by omega⟩
  · refine ⟨some ⟨g, 0, none⟩, cap, rfl, h1, fun j hj => ⟨g, 0, rfl, ⟨⟨⟨_, _, hh⟩, hR _ hg⟩, h.frozenAt _⟩, ?_⟩⟩
    rw [Nat.zero_add, h.cellAt j (by omega)]
    simp [List.getElem?_eq_getElem hj]
theorem own_app {W : World} {B n : Nat} {v : Value} {zs : List ByteArray} (bs : List ByteArray) (hn : n = zs.length) (hR : Lows R B) (h : W.ownsRow B 9 1 v n (zs.map Value.string)) : App R W B v zs bs := by
  subst hn
  rcases h.2 with ⟨e, h0⟩ | ⟨g, cap, cur, rfl, hg, hh, h1, h2, h3, h4⟩
  · exact .inl ⟨none, e, List.length_eq_zero_iff.1 h0⟩
  · refine .inr ⟨g, 0, cap, rfl, (Array.getElem?_eq_some_iff.1 hh).1, h1, fun j hj => ?_, fun hr => ⟨fun j hj => h.frozenAt _, ⟨⟨_, _, hh⟩, hR _ hg⟩, .inl ⟨hg, fun j hj => ?_⟩⟩⟩
    · rw [Nat.zero_add, h.cellAt j (by omega)]
      simp [List.getElem?_eq_getElem hj]
    · rw [World.cell?, hh]
      simp [show zs.length + j < cur.size by omega]
theorem below_setCells {B g : Nat} (hg : B ≤ g) : ∀ (vs : List Value) (o : Nat) (A w : World), Below B A w → Below B A (w.setCells g o vs)
  | [], _, _, _, h => h
  | v :: r, o, A, w, h => below_setCells hg r (o + 1) A _ (h.setCell (p := ⟨g, o, none⟩) hg v)
theorem typed_setCellsP {k : Nat} (b : Nat) : ∀ (vs : List Value) (o : Nat) {w : World}, TyR R w k → TyR R (w.setCells b o vs) k
  | [], _, _, h => h
  | v :: r, o, w, h => typed_setCellsP b r (o + 1) (h.setCell ⟨b, o, none⟩ v)
theorem info_strP : (Try.prog.info? 9).map (fun i => (i.zero, i.size, i.bytes)) = some (some (.string ⟨#[]⟩), 1, 16) := by kernel_rfl
theorem ones (bs : List ByteArray) : ∀ u ∈ bs.map Value.string, u.oneCell' = true := by
  intro u hu
  obtain ⟨x, _, rfl⟩ := List.mem_map.1 hu
  rfl
theorem app_run (W : World) (B : Nat) (hB : B ≤ W.heap.size) (hR : Lows R W.heap.size) (v nv : Value) (zs bs : List ByteArray) (h : App R W B v zs bs) (hn : Strs R W nv bs) (hlen : zs.length + bs.length ≤ 100000) (ty : TypeId) :
    ∃ v' w', (Builtin.append_ #[35, 35] ty #[v, nv]).run Try.prog W = .ok v' w' ∧ Strs R w' v' (zs ++ bs) ∧ Below B W w' ∧ ((∀ g off cap, v = .slice (some ⟨g, off, none⟩) zs.length cap → cap < zs.length + bs.length) → bs ≠ [] → ∀ cs, App R w' W.heap.size v' (zs ++ bs) cs) := by
  obtain ⟨i0, hi, hz0, hz1, hz2⟩ := info_parts info_strP
  have HN := hn
  obtain ⟨A, c, rfl, hc, hcells⟩ := hn
  have hml : (zs ++ bs).length = zs.length + bs.length := List.length_append
  cases A with
  | none =>
    have hb0 : bs = [] := by
      cases bs with
      | nil => rfl
      | cons x r => obtain ⟨b, o, e, _⟩ := hcells 0 (by simp); cases e
    subst hb0
    rw [List.append_nil]
    rcases h with ⟨A', rfl, rfl⟩ | ⟨g, off, cap, rfl, hg, hl, h1, h2⟩
    · refine ⟨.slice A' 0 0, W, ?_, ⟨A', 0, rfl, by simp, fun j hj => by simp at hj⟩, Below.refl _ _, fun _ hb => absurd rfl hb⟩
      cases A' <;> simp [Builtin.append_, run_underlying Try.underlying35, sizeOf, typeInfo, hi, Builtin.lenOf, run_firstCells_none, storeCells]
    · obtain ⟨hf, ht, _⟩ := h2 (by simpa using hl)
      refine ⟨.slice (some ⟨g, off, none⟩) zs.length cap, W, ?_, ⟨some ⟨g, off, none⟩, cap, rfl, hl, fun j hj => ⟨g, off, rfl, ⟨ht, hf j (by simp; omega)⟩, h1 j hj⟩⟩, Below.refl _ _, fun _ hb => absurd rfl hb⟩
      simp [Builtin.append_, run_underlying Try.underlying35, sizeOf, typeInfo, hi, Builtin.lenOf, run_firstCells_none, hl, storeCells]
  | some a =>
    have ha : ∃ b o, a = ⟨b, o, none⟩ ∨ bs = [] := by
      cases bs with
      | nil => exact ⟨0, 0, .inr rfl⟩
      | cons x r => obtain ⟨b, o, e, _⟩ := hcells 0 (by simp); injection e with e; exact ⟨b, o, .inl e⟩
    have hnews : ∀ j u, (bs.map Value.string)[j]? = some u → W.cell? (a.add j) = some u := by
      intro j u hu
      obtain ⟨b, o, rfl | rfl⟩ := ha
      · exact strs_cells HN j u hu
      · simp at hu
    rcases h with ⟨A', rfl, rfl⟩ | ⟨g, off, cap, rfl, hg, hl, h1, h2⟩
    · cases A' with
      | none =>
        obtain ⟨v', w', hrun, r1, r2, _⟩ := run_append_own (P := Try.prog) W W.heap.size 35 ty 9 i0 _ 1 16 Try.underlying35 hi hz0 hz1 hz2 rfl (by decide) (.slice none 0 0) 0 [] (World.ownsRow_nil W _ _ 1) a bs.length c (bs.map Value.string) (by simp) hnews (ones bs) (by unfold maxLen; omega) (by omega) (Nat.le_refl _)
        exact ⟨v', w', hrun, own_strs (by simp) hR r1, ⟨r2.os, r2.tape, r2.output, r2.size, fun k hk => r2.block k (by omega) (fun e => by cases e)⟩, fun _ _ cs => own_app cs (by simp) hR r1⟩
      | some a' =>
        by_cases hb0 : bs = []
        · subst hb0
          refine ⟨.slice (some a') 0 0, W, ?_, ⟨some a', 0, rfl, by simp, fun j hj => by simp at hj⟩, Below.refl _ _, fun _ hb => absurd rfl hb⟩
          have hfc := run_firstCells_some (P := Try.prog) W 1 0 a 0 c [] rfl (fun j u h => by simp at h)
          simp [Builtin.append_, run_underlying Try.underlying35, sizeOf, typeInfo, hi, Builtin.lenOf, hz1, hfc, storeCells]
        · have hbl : 0 < bs.length := List.length_pos_iff.2 hb0
          obtain ⟨v', w', hrun, r1, r2⟩ := run_append_arg_grows (P := Try.prog) W 35 ty 9 i0 _ 1 16 Try.underlying35 hi hz0 hz1 hz2 rfl (by decide) a' 0 0 [] rfl (fun j u h => by simp at h) a bs.length c (bs.map Value.string) (by simp) hnews (by omega) (by unfold maxLen; omega) (by omega)
          exact ⟨v', w', hrun, own_strs (by simp) hR r1, ⟨r2.os, r2.tape, r2.output, r2.size, fun k hk => r2.block k (by omega) (fun e => by cases e)⟩, fun _ _ cs => own_app cs (by simp) hR r1⟩
    · by_cases hr : zs.length + bs.length ≤ cap
      · obtain ⟨hf, ht, h3⟩ := h2 hr
        have hroom : ∀ j, j < bs.length → (W.cell? ⟨g, off + zs.length + j, none⟩).isSome = true := by
          rcases h3 with ⟨_, h3⟩ | h3
          · exact h3
          · intro j hj; rw [h3 j hj]; rfl
        have hrun := run_append_room_cells (P := Try.prog) W 35 ty 9 i0 Try.underlying35 hi g off zs.length cap a bs.length c (bs.map Value.string) (by rw [hz1]; simp) hnews (ones bs) hr
          (fun j hj => by rw [hz1, Nat.mul_one]; exact hroom j (by simpa using hj)) (fun j hj => by rw [hz1, Nat.mul_one, Nat.add_assoc]; exact hf _ (by simp at hj; omega))
        rw [hz1, Nat.mul_one] at hrun
        rcases h3 with ⟨hbg, h3⟩ | h3
        · refine ⟨_, _, hrun, ⟨some ⟨g, off, none⟩, cap, by rw [hml], by omega, fun j hj => ⟨g, off, rfl, ⟨typed_setCellsP _ _ _ ht, by rw [World.frozen?_setCells]; exact hf j (by omega)⟩, ?_⟩⟩, below_setCells hbg _ _ _ _ (Below.refl _ _), fun hno => absurd (hno g off cap rfl) (by omega)⟩
          by_cases hj2 : j < zs.length
          · rw [World.cell?_setCells_out _ _ _ _ _ (fun _ _ => by dsimp only; omega), h1 j hj2, List.getElem?_append_left hj2]
          · have hin := World.cell?_setCells_in g (bs.map Value.string) (off + zs.length) W (fun k hk => hroom k (by simpa using hk)) (j - zs.length) (by simp; omega)
            rw [show off + zs.length + (j - zs.length) = off + j by omega] at hin
            rw [hin, List.getElem?_append_right (by omega)]
            simp [List.getElem?_eq_getElem (show j - zs.length < bs.length by omega)]
        · rw [setCells_self g _ _ W (fun j u hu => by
            have hj : j < bs.length := by simpa using (List.getElem?_eq_some_iff.1 hu).1
            rw [h3 j hj]
            simpa [List.getElem?_eq_getElem hj] using hu)] at hrun
          refine ⟨_, _, hrun, ⟨some ⟨g, off, none⟩, cap, by rw [hml], by omega, fun j hj => ⟨g, off, rfl, ⟨ht, hf j (by omega)⟩, ?_⟩⟩, Below.refl _ _, fun hno => absurd (hno g off cap rfl) (by omega)⟩
          by_cases hj2 : j < zs.length
          · rw [h1 j hj2, List.getElem?_append_left hj2]
          · have := h3 (j - zs.length) (by omega)
            rw [show off + zs.length + (j - zs.length) = off + j by omega] at this
            rw [this, List.getElem?_append_right (by omega)]
      · obtain ⟨v', w', hrun, r1, r2⟩ := run_append_arg_grows (P := Try.prog) W 35 ty 9 i0 _ 1 16 Try.underlying35 hi hz0 hz1 hz2 rfl (by decide) ⟨g, off, none⟩ zs.length cap (zs.map Value.string) (by simp) (fun j u hu => by
            have hj : j < zs.length := by simpa using (List.getElem?_eq_some_iff.1 hu).1
            rw [Addr.add_lit, h1 j hj]
            simpa [List.getElem?_eq_getElem hj] using hu) a bs.length c (bs.map Value.string) (by simp) hnews (by omega) (by unfold maxLen; omega) (by omega)
        exact ⟨v', w', hrun, own_strs hml.symm hR (by rw [List.map_append]; exact r1), ⟨r2.os, r2.tape, r2.output, r2.size, fun k hk => r2.block k (by omega) (fun e => by cases e)⟩, fun _ _ cs => own_app cs hml.symm hR (by rw [List.map_append]; exact r1)⟩

/-- As one step of a region that draws its order. -/
theorem step_app {ops : Array Oper} {o : Oper} {a : Act} {W : World} {K : Act → World → Prop} {Q : Exit → Act → World → Prop} {E : Prop}
    (hgd : o.guard = none) (s x : Operand) (hop : o.op = Op.call { callee := Callee.builtin Builtin.append, args := #[s, x], argTypes := #[35, 35] })
    (B : Nat) (hB : B ≤ W.heap.size) (hR : Lows R W.heap.size) (v nv : Value) (zs bs : List ByteArray) (hs : a.eval s = v) (hx : a.eval x = nv) (h : App R W B v zs bs) (hn : Strs R W nv bs) (hlen : zs.length + bs.length ≤ 100000)
    (hK : ∀ v' w', Strs R w' v' (zs ++ bs) → Below B W w' → K (a.put o.dst v') w') :
    if Region.wanted o (yielded ops a.tmps) = true then Oper.wp Try.prog o a W K Q else E := by
  have hw : Region.wanted o (yielded ops a.tmps) = true := by simp [Region.wanted, hgd]
  rw [if_pos hw]
  obtain ⟨v', w', hrun, h1, h2, _⟩ := app_run W B hB hR v nv zs bs h hn hlen o.type
  unfold Oper.wp
  simp [execOp, hop, resolve, invoke, builtin, hs, hx, hrun, Result.andThen]
  exact hK v' w' h1 h2
/-- At the operation. -/
theorem wpList_app {ops : Array Oper} {rest : List Oper} {o : Oper} {a : Act} {Q : Exit → Act → World → Prop} (W : World)
    (hgd : o.guard = none) (s x : Operand) (hop : o.op = Op.call { callee := Callee.builtin Builtin.append, args := #[s, x], argTypes := #[35, 35] })
    (B : Nat) (hB : B ≤ W.heap.size) (hR : Lows R W.heap.size) (v nv : Value) (zs bs : List ByteArray) (hs : a.eval s = v) (hx : a.eval x = nv) (h : App R W B v zs bs) (hn : Strs R W nv bs) (hlen : zs.length + bs.length ≤ 100000)
    (hK : ∀ v' w', Strs R w' v' (zs ++ bs) → Below B W w' → ((∀ g off cap, v = .slice (some ⟨g, off, none⟩) zs.length cap → cap < zs.length + bs.length) → bs ≠ [] → ∀ cs, App R w' W.heap.size v' (zs ++ bs) cs) → wpList Try.prog ops Q rest (a.put o.dst v') w') :
    wpList Try.prog ops Q (o :: rest) a W := by
  refine wpList_plain hgd fun K hK' => ?_
  obtain ⟨v', w', hrun, h1, h2, h3⟩ := app_run W B hB hR v nv zs bs h hn hlen o.type
  unfold Oper.wp
  simp [execOp, hop, resolve, invoke, builtin, hs, hx, hrun, Result.andThen]
  exact hK' _ _ (hK v' w' h1 h2 h3)
/-- A call of a function, as one step of a region that draws its order. -/
theorem step_fn {ops : Array Oper} {o : Oper} {a : Act} {W : World} {K : Act → World → Prop} {Q : Exit → Act → World → Prop} {E : Prop}
    (hgd : o.guard = none) (f : Nat) (fn : Func) (hf : Try.prog.funcs[f]? = some fn) (hnm : ¬ fn.name = "runtime.NumGoroutine") (hbd : ¬ fn.body = Option.none) (x y : Operand) (ty : Array TypeId) (hop : o.op = Op.call { callee := Callee.value (.func f), args := #[x, y], argTypes := ty })
    (vx vy : Value) (hx : a.eval x = vx) (hy : a.eval y = vy) (Post : Value → World → Prop) (hc : Calls Try.prog f #[vx, vy] W fun e w' => ∃ v, e = .returned v ∧ Post v w')
    (hK : ∀ v w', Post v w' → K (a.put o.dst v) w') :
    if Region.wanted o (yielded ops a.tmps) = true then Oper.wp Try.prog o a W K Q else E := by
  have hw : Region.wanted o (yielded ops a.tmps) = true := by simp [Region.wanted, hgd]
  rw [if_pos hw]
  unfold Oper.wp
  have he : a.eval (Operand.func f) = Value.func (Fn.func f) #[] #[] := rfl
  simp [execOp, hop, resolve, invoke, hx, hy, he, Result.andThen, Deferred.ofValue, callFunc, hf, hnm, hbd]
  refine hc.mono ?_
  rintro e w' ⟨v, rfl, hp⟩
  exact hK v w' hp
end Go.Proofs.Ytmllbaacjodccaa
