/- Contract of the reference's Clean. Contract of the reference's pasted. -/
import Derived.Test.YtiilgeinkocanaaDoorKcleanp
import Derived.Test.YtiilgeinkocanaaDoorKrsmall
import Derived.Test.YtiilgeinkocanaaDoorStarts
import Derived.Test.YtiilgeinkocanaaDoorRof
import Derived.Test.YtiilgeinkocanaaDoorKpasted
namespace Go.Proofs.YtiilgeinkocanaaDoor
open Go.RowKit

theorem cleanL_starts (s : ByteArray) : ∀ f pos, cleanL s (startsFrom s f pos) = cleanFrom s f pos
  | 0, _ => rfl
  | f + 1, pos => by
    unfold startsFrom cleanFrom
    by_cases h : pos < s.size
    · rw [if_pos h, if_pos h, cleanL, cleanL_starts]; rfl
    · rw [if_neg h, if_neg h]; rfl
theorem cleanL_all (s : ByteArray) : cleanL s (starts s) = cleanK s := cleanL_starts s s.size 0
theorem dec_sub {s : ByteArray} {k : Nat} (hk : k < s.size) (h : (dec3 s k).2.2 = true) : s.extract k (k + (Utf8.decode s k).2) = putS (Utf8.decode s k).1 := by
  obtain ⟨r, hv, he, hl⟩ := ok_put hk h
  have hd := (decode_put hv he hl).1
  rw [hd]
  dsimp only
  rw [he]
  congr 1
  omega
theorem putS_le5 (r : Int) : (putS r).size ≤ 4 := by
  rcases put_cases r with ⟨e, b⟩ | ⟨e, b⟩ | ⟨e, b⟩ | ⟨e, b⟩ | ⟨e, b⟩
  all_goals (rw [e]; first | exact Nat.zero_le 4 | exact (show 1 ≤ 4 by decide) | exact (show 2 ≤ 4 by decide) | exact (show 3 ≤ 4 by decide) | exact (show 4 ≤ 4 by decide))
theorem ret_strR {a b : ByteArray} (h : a = b) : Ending.returned (.string a) = .returned (.string b) := by rw [h]
theorem natsAt_drewN {A : Option Addr} {L : List Nat} {w : World} (h : NatsAt A L w) (q : Nat) : NatsAt A L (w.drewN q) := fun k hk => h k hk
theorem below_drewR {B : Nat} {a w : World} (h : Below B a w) (q : Nat) : Below B a (w.drewN q) := ⟨h.os, h.tape, h.output, h.size, h.block⟩
/-- The loop's text so far. -/
theorem cl_nil (a : ByteArray) : a = a ++ (⟨#[]⟩ : ByteArray) := (ap_nilB a).symm
set_option maxRecDepth 100000 in
set_option maxHeartbeats 4000000 in
theorem rclean_any (s : ByteArray) (w : World) (hs : s.size ≤ 1000000) : Calls Tryd.prog 20 #[.string s] w fun e w' => e = .returned (.string (cleanK s)) ∧ Below w.heap.size w w' := by
  go_enter Tryd.func20, Tryd.ntmps20
  go_wp2_with fail
  refine (starts_any s w (by omega)).mono ?_
  rintro e w1 ⟨A, c, rfl, hown, hb1⟩
  have hlen := starts_len s
  have HNA := hide (NatsAt.of_own hown)
  have hlt := starts_lt s s.size 0
  have HALL := hide (cleanL_all s)
  rw [show startsFrom s s.size 0 = starts s from rfl] at hlt
  generalize starts s = L at *
  have HLT := hide hlt
  clear hown hlt
  go_wp2_with fail
  go_loopw [4, 5] (fun o i wr => ∃ (k : Nat) (acc : ByteArray), k ≤ L.length ∧ Hid (acc = cleanL s (L.take k)) ∧ acc.size ≤ 4 * k ∧ o = .string acc ∧ i = .int .i64 k ∧ Hid (NatsAt A L wr) ∧ Below w.heap.size w wr) (fun _ i _ => L.length - (intOf i).toNat)
  case atStart => exact ⟨0, ⟨#[]⟩, by omega, hide (by rw [List.take_zero]; rfl), Nat.le_refl 0, rfl, rfl, HNA, hb1⟩
  case round =>
    obtain ⟨k, acc, hk, HAC, hac, rfl, rfl, HNr, hB⟩ := hrel
    have HB := hide hB
    clear hB
    by_cases hlt : k < L.length
    · obtain ⟨g, rfl, hc⟩ := HNr.out k hlt
      obtain ⟨x, hx⟩ : ∃ x, x = L[k]?.getD 0 := ⟨_, rfl⟩
      have hxs : x < s.size := (HLT.out x (by rw [hx]; simp [hlt])).2
      have HSN := hide (show cleanL s (L.take (k + 1)) = cleanL s (L.take k) ++ cleanAt s x from cleanL_snoc (by rw [hx]; simp [hlt]))
      rw [← hx] at hc
      have HCX := hide (show ∀ W, NatsAt (some ⟨g, 0, none⟩) L W → W.cell? ⟨g, k, none⟩ = some (.int .i64 (x : Int)) from fun W hW => by
        obtain ⟨g2, e, hc2⟩ := hW k hlt
        injection e with e; injection e with e
        rw [e, hx]; exact hc2)
      clear hx
      have HN := hide (fun W => rnext_u s x W (by omega) hxs)
      have hd := dec_in s x hxs
      have hA0 := @cleanAt_no s x
      have hA1 := @cleanAt_cr s x
      have hA2 := @cleanAt_put s x
      have hA3 := @cleanAt_none s x
      have hE := @dec_sub s x hxs
      have hU4 := putS_le5 ((Utf8.decode s x).1 : Int)
      obtain ⟨r, hr⟩ : ∃ r : Int, ((Utf8.decode s x).1 : Int) = r := ⟨_, rfl⟩
      obtain ⟨n, hn⟩ : ∃ n, (Utf8.decode s x).2 = n := ⟨_, rfl⟩
      obtain ⟨b, hb⟩ : ∃ b, (dec3 s x).2.2 = b := ⟨_, rfl⟩
      rw [hr, hn, hb] at HN
      rw [hb] at hA0 hA1 hA2 hA3 hE
      rw [hr] at hA1 hA2 hA3 hE hU4
      rw [hn] at hd hE
      clear hr hn hb
      obtain ⟨m, hm⟩ : ∃ m, m = x + n := ⟨_, rfl⟩
      have m1 : IntKind.i64.wrap ((x : Int) + (n : Int)) = (m : Int) := by rw [Go.wrap_small _ (by omega) (by omega)]; omega
      have m2 : x ≤ m := by omega
      have m3 : m ≤ s.size := by omega
      rw [← hm] at hE
      clear hm hd
      cases b
      case false =>
        have HCL := hide (hA0 rfl)
        clear hA0 hA1 hA2 hA3 hE hU4 m1
        go_wp2_with fail
        refine (HN.out _).mono ?_
        rintro e w2 ⟨rfl, hb2⟩
        have HB2 := hide (HB.out.trans (hb2.mono HB.out.size))
        have HN2 := hide (HNr.out.below hb2)
        have hc2 := HCX.out _ HN2.out
        clear hb2
        go_wp2_with fail
        go_roundw
        case rel => exact ⟨k + 1, acc, by omega, hide (by rw [HSN.out, ← HAC.out, HCL.out, ap_nilB]), by omega, rfl, by go_num, HN2, HB2.out⟩
        case measure => simp [intOf]; omega
      case true =>
        have hE := hE rfl
        have hA1 := hA1 rfl
        have hA2 := hA2 rfl
        have hA3 := hA3 rfl
        clear hA0
        by_cases h13 : r = 13
        · have HCL := hide (hA1 h13)
          subst h13
          clear hA1 hA2 hA3 hE hU4 m1
          go_wp2_with fail
          refine (HN.out _).mono ?_
          rintro e w2 ⟨rfl, hb2⟩
          have HB2 := hide (HB.out.trans (hb2.mono HB.out.size))
          have HN2 := hide (HNr.out.below hb2)
          have hc2 := HCX.out _ HN2.out
          clear hb2
          go_wp2_with fail
          go_roundw
          case rel => exact ⟨k + 1, acc ++ ⟨#[10]⟩, by omega, hide (by rw [HSN.out, ← HAC.out, HCL.out]), by rw [join_size]; show acc.size + 1 ≤ _; omega, rfl, by go_num, HN2, HB2.out⟩
          case measure => simp [intOf]; omega
        have hA2 := hA2 h13
        have hA3 := hA3 h13
        clear hA1
        obtain ⟨u, hu⟩ : ∃ u, putS r = u := ⟨_, rfl⟩
        rw [hu] at hA2 hE hU4
        have HU4 := hide hU4
        clear hU4
        by_cases h10 : r = 10
        · have HCL := hide (hA2 (.inl h10))
          clear hA2 hA3 hu h13
          subst h10
          go_wp2_with fail
          refine (HN.out _).mono ?_
          rintro e w2 ⟨rfl, hb2⟩
          have HB2 := hide (HB.out.trans (hb2.mono HB.out.size))
          have HN2 := hide (HNr.out.below hb2)
          have hc2 := HCX.out _ HN2.out
          clear hb2
          have z9 : ¬ 9223372036854775807 < acc.size + u.size := by have := HU4.out; omega
          go_wp2_with fail
          go_quiet (fail)
          go_wp2_with fail
          go_roundw
          case rel => exact ⟨k + 1, acc ++ u, by omega, hide (by rw [HSN.out, ← HAC.out, HCL.out]), by rw [join_size]; have := HU4.out; omega, rfl, by go_num, hide (natsAt_drewN HN2.out _), (below_drewR HB2.out _)⟩
          case measure => simp [intOf]; omega
        by_cases h9 : r = 9
        · have HCL := hide (hA2 (.inr (.inl h9)))
          clear hA2 hA3 hu h13 h10
          subst h9
          go_wp2_with fail
          refine (HN.out _).mono ?_
          rintro e w2 ⟨rfl, hb2⟩
          have HB2 := hide (HB.out.trans (hb2.mono HB.out.size))
          have HN2 := hide (HNr.out.below hb2)
          have hc2 := HCX.out _ HN2.out
          clear hb2
          have z9 : ¬ 9223372036854775807 < acc.size + u.size := by have := HU4.out; omega
          go_wp2_with fail
          go_quiet (fail)
          go_wp2_with fail
          go_roundw
          case rel => exact ⟨k + 1, acc ++ u, by omega, hide (by rw [HSN.out, ← HAC.out, HCL.out]), by rw [join_size]; have := HU4.out; omega, rfl, by go_num, hide (natsAt_drewN HN2.out _), (below_drewR HB2.out _)⟩
          case measure => simp [intOf]; omega
        have b10 : (r == 10) = false := by simpa using h10
        have b9 : (r == 9) = false := by simpa using h9
        obtain ⟨y, hy⟩ : ∃ y, cells r = y := ⟨_, rfl⟩
        have HOF := hide (fun W => rof_any r W)
        rw [hy] at HOF hA2 hA3
        by_cases h0 : 0 < y
        · have HCL := hide (hA2 (.inr (.inr h0)))
          clear hA2 hA3 hu hy
          go_wp2_with fail
          refine (HN.out _).mono ?_
          rintro e w2 ⟨rfl, hb2⟩
          have HB2 := hide (HB.out.trans (hb2.mono HB.out.size))
          have HN2 := hide (HNr.out.below hb2)
          have hc2 := HCX.out _ HN2.out
          clear hb2
          go_wp2_with fail
          refine (HOF.out _).mono ?_
          rintro e w4 ⟨rfl, hb4⟩
          replace HB2 := hide (HB2.out.trans (hb4.mono HB2.out.size))
          replace HN2 := hide (HN2.out.below hb4)
          have hc4 := HCX.out _ HN2.out
          clear hb4
          have z9 : ¬ 9223372036854775807 < acc.size + u.size := by have := HU4.out; omega
          go_wp2_with fail
          go_quiet (fail)
          go_wp2_with fail
          go_roundw
          case rel => exact ⟨k + 1, acc ++ u, by omega, hide (by rw [HSN.out, ← HAC.out, HCL.out]), by rw [join_size]; have := HU4.out; omega, rfl, by go_num, hide (natsAt_drewN HN2.out _), (below_drewR HB2.out _)⟩
          case measure => simp [intOf]; omega
        · have HCL := hide (hA3 (by omega))
          have h0d : decide ((0 : Int) < y) = false := decide_eq_false h0
          clear hA2 hA3 hu hy hE m1
          go_wp2_with fail
          refine (HN.out _).mono ?_
          rintro e w2 ⟨rfl, hb2⟩
          have HB2 := hide (HB.out.trans (hb2.mono HB.out.size))
          have HN2 := hide (HNr.out.below hb2)
          have hc2 := HCX.out _ HN2.out
          clear hb2
          go_wp2_with fail
          refine (HOF.out _).mono ?_
          rintro e w4 ⟨rfl, hb4⟩
          replace HB2 := hide (HB2.out.trans (hb4.mono HB2.out.size))
          replace HN2 := hide (HN2.out.below hb4)
          have hc4 := HCX.out _ HN2.out
          clear hb4
          go_wp2_with fail
          go_roundw
          case rel => exact ⟨k + 1, acc, by omega, hide (by rw [HSN.out, ← HAC.out, HCL.out, ap_nilB]), by omega, rfl, by go_num, HN2, HB2.out⟩
          case measure => simp [intOf]; omega
    · go_wp2_with fail
      go_ret
      exact ⟨ret_strR (by rw [HAC.out, List.take_of_length_le (by omega)]; exact HALL.out), HB.out⟩
end Go.Proofs.YtiilgeinkocanaaDoor
namespace Go.Proofs.YtiilgeinkocanaaDoor
open Go.RowKit

theorem dup_run (W : World) (ty : TypeId) (v : Value) (p : ByteArray) (h : W.ownsRow 0 5 1 v p.size (byteV p)) (hz : p.size ≤ 1000000) :
    ∃ v' w', (Builtin.append_ #[34, 34] ty #[.slice none 0 0, v]).run Tryd.prog W = .ok v' w' ∧ w'.ownsRow W.heap.size 5 1 v' p.size (byteV p) ∧ W.grownBy w' none := by
  obtain ⟨i0, hi, hz0, hz1, hz2⟩ := info_parts info_byt
  rcases h.2 with ⟨rfl, h0⟩ | ⟨g, cap, cur, rfl, hg, hh, r⟩
  · have hp := size0 h0
    subst hp
    exact ⟨_, _, run_append_owned_none (P := Tryd.prog) (w := W) W.heap.size 34 ty 5 i0 1 Tryd.underlying34 hi (.slice none 0 0) 0 [] (World.ownsRow_nil _ _ _ _), World.ownsRow_nil _ _ _ _, ⟨rfl, rfl, rfl, Nat.le_refl _, fun _ _ _ => rfl⟩⟩
  · obtain ⟨v', w', hr, h2, h3, -⟩ := run_append_own (P := Tryd.prog) W W.heap.size 34 ty 5 i0 (.int .u8 0) 1 1 Tryd.underlying34 hi hz0 hz1 hz2 rfl (by decide) (.slice none 0 0) 0 [] (World.ownsRow_nil _ _ _ _) ⟨g, 0, none⟩ p.size cap (byteV p) (by simp [byteV]) (h.cells (g := g) rfl) (by
      intro u hu
      unfold byteV at hu
      obtain ⟨b, -, rfl⟩ := List.mem_map.1 hu
      rfl) (by unfold maxLen; omega) (by omega) (Nat.le_refl _)
    rw [Nat.zero_add, List.nil_append] at h2
    exact ⟨v', w', hr, h2, h3⟩
theorem wpList_dup {ops : Array Oper} {rest : List Oper} {o : Oper} {a : Act} {Q : Exit → Act → World → Prop} (W : World) (hgd : o.guard = none) (x : Operand)
    (hop : o.op = Op.call { callee := Callee.builtin Builtin.append, args := #[.const (.slice none 0 0), x], argTypes := #[34, 34] })
    (v : Value) (p : ByteArray) (hx : a.eval x = v) (h : W.ownsRow 0 5 1 v p.size (byteV p)) (hz : p.size ≤ 1000000)
    (hK : ∀ v' w', w'.ownsRow W.heap.size 5 1 v' p.size (byteV p) → W.grownBy w' none → wpList Tryd.prog ops Q rest (a.put o.dst v') w') :
    wpList Tryd.prog ops Q (o :: rest) a W := by
  refine wpList_plain hgd fun K hK' => ?_
  obtain ⟨v', w', hrun, h2, h3⟩ := dup_run W o.type v p h hz
  unfold Oper.wp
  simp [execOp, hop, resolve, invoke, builtin, hx, hrun, Result.andThen]
  rw [show a.eval (.const (.slice none 0 0)) = .slice none 0 0 from rfl, hrun]
  exact hK' _ _ (hK v' w' h2 h3)
theorem rpast_world {R g n c : Nat} {G : List Nat} {p P : ByteArray} {v : Value} {w w1 w2 : World} {o : Obj}
    (h : Blk w R 36 (rB ⟨#[]⟩ true v)) (hg1 : w.grownBy w1 none) {v1 : Value} (hown1 : w1.ownsRow w.heap.size 5 1 v1 p.size (byteV p)) (hg2 : (w1.alloc o).grownBy w2 v1.ownBlock) (hown2 : w2.ownsRow w.heap.size 5 1 (.slice (some ⟨g, 0, none⟩) n c) P.size (byteV P)) :
    Blk w2 R 36 (rB ⟨#[]⟩ true v) ∧ Ex [R] w (w2.setCell ⟨R, 2, none⟩ (.slice (some ⟨g, 0, none⟩) n c)) ∧ Blk (w2.setCell ⟨R, 2, none⟩ (.slice (some ⟨g, 0, none⟩) n c)) R 36 (rB ⟨#[]⟩ true (.slice (some ⟨g, 0, none⟩) n c)) ∧
      (w2.setCell ⟨R, 2, none⟩ (.slice (some ⟨g, 0, none⟩) n c)).ownsRow 0 5 1 (.slice (some ⟨g, 0, none⟩) n c) P.size (byteV P) ∧ w.heap.size ≤ g := by
  have hlt := h.lt
  have hge : ∀ k, v1.ownBlock = some k → w.heap.size ≤ k := fun k hk => (hown1.lt k hk).1
  have hg : w.heap.size ≤ g := (hown2.lt g rfl).1
  have hold : ∀ k, k < w.heap.size → w2.heap[k]? = w.heap[k]? := fun k hk =>
    (hg2.block k (by have := hg1.size; simp; omega) (fun e => by have := hge k e.symm; omega)).trans ((Below.heap_alloc _ _ _ (by have := hg1.size; omega)).trans (hg1.block k hk (by simp)))
  have hs2 : w.heap.size ≤ w2.heap.size := by have h1 := hg1.size; have h2 := hg2.size; simp at h2; omega
  have hR2 : Blk w2 R 36 (rB ⟨#[]⟩ true v) := (hold R hlt).trans h
  refine ⟨hR2, ⟨hg2.os.trans hg1.os, hg2.tape.trans hg1.tape, hg2.output.trans hg1.output, by simpa [World.setCell] using hs2, fun k hk hn => (Below.heap_setCell _ _ _ _ (fun e => hn (by simpa using e))).trans (hold k hk)⟩, hR2.set 2 _, ?_, hg⟩
  refine ⟨hown2.1, ?_⟩
  rcases hown2.2 with ⟨h, -⟩ | ⟨g', cap, cur, e, hg', hh, r⟩
  · cases h
  · injection e with e1 e2 e3
    injection e1 with e1
    injection e1 with e1
    subst e1 e2 e3
    exact .inr ⟨g, _, cur, rfl, Nat.zero_le _, (Below.heap_setCell _ _ _ _ (fun e => by dsimp only at e; omega)).trans hh, r⟩
theorem rpast_on {R n c g : Nat} {G : List Nat} {P : ByteArray} {w W : World} (hR : R ∈ G) (hx : Ex [R] w W) (hD : Blk W R 36 (rB ⟨#[]⟩ true (.slice (some ⟨g, 0, none⟩) n c))) (hown : W.ownsRow 0 5 1 (.slice (some ⟨g, 0, none⟩) n c) P.size (byteV P)) (hg : w.heap.size ≤ g) :
    RFPost R G ((true, P), []) w (.returned (.slice none 0 0)) W := by
  refine ⟨_, rfl, OwnK.nil _ _, fun _ => rfl, ⟨[R, g], .inr ⟨rfl, _, .inr ⟨g, n, c, rfl, rfl⟩, hD, hown⟩, ?_⟩, hx⟩
  intro k hk
  simp only [List.mem_cons, List.not_mem_nil, or_false] at hk
  rcases hk with rfl | rfl
  · exact .inl hR
  · exact .inr hg
theorem rf_of_in {R : Nat} {G : List Nat} (hR : R ∈ G) {r : ByteArray × List Ky} {w w' : World} {e : Ending} (h : RPost R false (.slice none 0 0) r w e w') : RFPost R G (stays r) w e w' := by
  obtain ⟨v, he, h1, h2, h3, h5⟩ := h
  exact ⟨v, he, h1, h2, ⟨[R], .inl ⟨rfl, rfl, h3⟩, fun k hk => .inl (by rw [List.mem_singleton.1 hk]; exact hR)⟩, h5⟩
theorem run_window (W : World) (g j n cap : Nat) (P : ByteArray) (h : Lib.Bytes W g 0 P) (hj : j + n ≤ P.size) : (convert 34 9 (.slice (some ⟨g, j, none⟩) n cap)).run Tryd.prog W = .ok (.string (P.extract j (j + n))) W := by
  have := Lib.run_convert_window (P := Tryd.prog) W 34 5 9 Tryd.underlying34 Tryd.underlying5 Tryd.underlying9 g 0 P h j n cap hj
  rwa [Nat.zero_add] at this
set_option maxRecDepth 100000 in
set_option maxHeartbeats 2000000 in
theorem rpasted_any (R : Nat) (G : List Nat) (p : ByteArray) (x : Int) (v : Value) (w : World) (h0 : 0 ≤ x) (h1 : x ≤ 255) (hz : p.size ≤ 900000) (hR : R ∈ G) (h : Blk w R 36 (rB ⟨#[]⟩ true v)) (hown : w.ownsRow 0 5 1 v p.size (byteV p)) :
    Calls Tryd.prog 31 #[.pointer (some ⟨R, 0, none⟩), .int .u8 x] w (RFPost R G (pasteK p x) w) := by
  have r2 := h.cell (i := 2) rfl
  have HD := hide h
  have HPW := hide (fun w1 w2 (o : Obj) (P : ByteArray) (n c g : Nat) v1 h1 h2 h3 h4 => rpast_world (w1 := w1) (w2 := w2) (o := o) (P := P) (n := n) (c := c) (g := g) (v1 := v1) (p := p) (G := G) h h1 h2 h3 h4)
  have HOWN := hide hown
  obtain ⟨n, hn⟩ : ∃ n, n = p.size + 1 := ⟨_, rfl⟩
  obtain ⟨P, hP⟩ : ∃ P, P = p ++ strOfNums [x] := ⟨_, rfl⟩
  have HPS := hide (show P.size = n by rw [hP, hn, join_size, one_size])
  have HBV := hide (show byteV p ++ [.int .u8 x] = byteV P by rw [hP]; exact byteV_app p x h0 h1)
  have hn1 : 1 ≤ n := by omega
  have hn2 : n ≤ 1000001 := by omega
  have HN := hide hn
  have HR := hide (show pasteK p x = if 6 ≤ n ∧ P.extract (n - 6) n = endS then ((false, ⟨#[]⟩), [⟨15, 0, cleanK (P.extract 0 (n - 6))⟩]) else ((true, P), []) by unfold pasteK; rw [← hP, HPS.out])
  clear hP hn h hown
  by_cases h6 : 6 ≤ n
  · obtain ⟨m, hm⟩ : ∃ m, m = n - 6 := ⟨_, rfl⟩
    have m4 : n = m + 6 := by omega
    rw [← hm] at HR
    obtain ⟨T, hT⟩ : ∃ T, P.extract m n = T := ⟨_, rfl⟩
    have HT := hide hT
    rw [hT] at HR
    by_cases hE : T = endS
    · have HE := hide (show pasteK p x = ((false, ⟨#[]⟩), [⟨15, 0, cleanK (P.extract 0 m)⟩]) by rw [HR.out, if_pos ⟨h6, hE⟩])
      have he : (T.toList == [27, 91, 50, 48, 49, 126]) = true := str_eqK (decide_eq_true hE)
      have HSM := hide (show (P.extract 0 m).size ≤ 1000000 by rw [ByteArray.size_extract]; omega)
      clear HR hE hm hT
      subst m4
      obtain ⟨S, hS⟩ : ∃ S, P.extract 0 m = S := ⟨_, rfl⟩
      have HS := hide hS
      rw [hS] at HE HSM
      clear hS
      go_enter Tryd.func31, Tryd.ntmps31
      go_wp2_with (first
        | (at_builtin; refine wpList_dup _ rfl _ rfl v p rfl HOWN.out (by omega) ?_; intro v1 w1 hown1 hg1; have HO1 := hide hown1; have HG1 := hide hg1; have HBL := hide (Blk.new w1 5 [.int .u8 x]); clear hown1 hg1)
        | (at_builtin; refine wpList_row _ rfl _ _ rfl w.heap.size (by have := HG1.out.size; simp; omega) _ _ _ w1.heap.size _ rfl rfl (HO1.out.alloc _) (HBL.out.cell (i := 0) rfl) rfl (by omega) ?_; intro v' w2 hown' hgrow hnew; replace hown' : w2.ownsRow w.heap.size 5 1 v' P.size (byteV P) := (by rw [← HBV.out, HPS.out, HN.out]; exact hown'); replace hgrow : (w1.alloc (.cells #[.int .u8 x] 5)).grownBy w2 v1.ownBlock := hgrow; obtain ⟨g', c', hv', hc', -, -, -⟩ := bytes_form hown' (by rw [HPS.out]; omega); rw [HPS.out] at hv' hc'; subst hv'; have H3 := hide (HPW.out _ _ _ _ _ _ _ _ HG1.out HO1.out hgrow hown'); have d1 := H3.out.1.cell (i := 2) rfl; have f1 := H3.out.1.frozen 2; have hq3 := H3.out.2.2.1.cell (i := 2) rfl; have HB3 := hide (show Lib.Bytes (w2.setCell ⟨R, 2, none⟩ (.slice (some ⟨g', 0, none⟩) (m + 6) c')) g' 0 P from (by have h := H3.out.2.2.2.1; rw [← HPS.out] at h ⊢; exact own_bytes h)); have hcv0 : (convert 34 9 (.slice (some ⟨g', 0, none⟩) m c')).run Tryd.prog (w2.setCell ⟨R, 2, none⟩ (.slice (some ⟨g', 0, none⟩) (m + 6) c')) = .ok (.string S) (w2.setCell ⟨R, 2, none⟩ (.slice (some ⟨g', 0, none⟩) (m + 6) c')) := (by rw [← HS.out]; have := run_window _ g' 0 m c' P HB3.out (by rw [HPS.out]; omega); rwa [Nat.zero_add] at this); have hcv : (convert 34 9 (.slice (some ⟨g', m, none⟩) 6 (c' - m))).run Tryd.prog (w2.setCell ⟨R, 2, none⟩ (.slice (some ⟨g', 0, none⟩) (m + 6) c')) = .ok (.string T) (w2.setCell ⟨R, 2, none⟩ (.slice (some ⟨g', 0, none⟩) (m + 6) c')) := (by rw [← HT.out]; exact run_window _ g' m 6 (c' - m) P HB3.out (by rw [HPS.out]; omega)); clear hown' hgrow hnew)
        | (go_at_call 20; refine (rclean_any S _ HSM.out).mono ?_; rintro e w4 ⟨rfl, hb4⟩; have HD4 := hide (H3.out.2.2.1.below hb4); have HX4 := hide (ex_below H3.out.2.1 hb4); have s1 := HD4.out.cell (i := 1) rfl; have t1 := HD4.out.frozen 1; have HD5 := hide (HD4.out.set 1 (.bool false)); have s2 := HD5.out.cell (i := 2) rfl; have t2 := HD5.out.frozen 2; have HD6 := hide (show Blk ((w4.setCell ⟨R, 1, none⟩ (.bool false)).setCell ⟨R, 2, none⟩ (.slice none 0 0)) R 36 (rB ⟨#[]⟩ false (.slice none 0 0)) from HD5.out.set 2 _); have HX6 := hide (ex_set (ex_set HX4.out 1 (.bool false)) 2 (.slice none 0 0)); obtain ⟨W6, hW6⟩ : ∃ W6, (w4.setCell ⟨R, 1, none⟩ (.bool false)).setCell ⟨R, 2, none⟩ (.slice none 0 0) = W6 := ⟨_, rfl⟩; rw [hW6] at HD6 HX6; clear hb4)
        | fail)
      refine (rkey_any 15 0 (cleanK S) _).mono ?_
      rintro e w7 ⟨rfl, rfl⟩
      go_wp2_with fail
      go_ret
      rw [HE.out]
      exact rf_of_in hR (rk_key (k := ⟨15, 0, cleanK S⟩) HX6.out HD6.out)
    · have HE := hide (show pasteK p x = ((true, P), []) by rw [HR.out, if_neg (fun h => hE h.2)])
      have he : (T.toList == [27, 91, 50, 48, 49, 126]) = false := str_eqK (decide_eq_false hE)
      clear HR hE hm hT
      subst m4
      go_enter Tryd.func31, Tryd.ntmps31
      go_wp2_with (first
        | (at_builtin; refine wpList_dup _ rfl _ rfl v p rfl HOWN.out (by omega) ?_; intro v1 w1 hown1 hg1; have HO1 := hide hown1; have HG1 := hide hg1; have HBL := hide (Blk.new w1 5 [.int .u8 x]); clear hown1 hg1)
        | (at_builtin; refine wpList_row _ rfl _ _ rfl w.heap.size (by have := HG1.out.size; simp; omega) _ _ _ w1.heap.size _ rfl rfl (HO1.out.alloc _) (HBL.out.cell (i := 0) rfl) rfl (by omega) ?_; intro v' w2 hown' hgrow hnew; replace hown' : w2.ownsRow w.heap.size 5 1 v' P.size (byteV P) := (by rw [← HBV.out, HPS.out, HN.out]; exact hown'); replace hgrow : (w1.alloc (.cells #[.int .u8 x] 5)).grownBy w2 v1.ownBlock := hgrow; obtain ⟨g', c', hv', hc', -, -, -⟩ := bytes_form hown' (by rw [HPS.out]; omega); rw [HPS.out] at hv' hc'; subst hv'; have H3 := hide (HPW.out _ _ _ _ _ _ _ _ HG1.out HO1.out hgrow hown'); have d1 := H3.out.1.cell (i := 2) rfl; have f1 := H3.out.1.frozen 2; have hq3 := H3.out.2.2.1.cell (i := 2) rfl; have HB3 := hide (show Lib.Bytes (w2.setCell ⟨R, 2, none⟩ (.slice (some ⟨g', 0, none⟩) (m + 6) c')) g' 0 P from (by have h := H3.out.2.2.2.1; rw [← HPS.out] at h ⊢; exact own_bytes h)); have hcv : (convert 34 9 (.slice (some ⟨g', m, none⟩) 6 (c' - m))).run Tryd.prog (w2.setCell ⟨R, 2, none⟩ (.slice (some ⟨g', 0, none⟩) (m + 6) c')) = .ok (.string T) (w2.setCell ⟨R, 2, none⟩ (.slice (some ⟨g', 0, none⟩) (m + 6) c')) := (by rw [← HT.out]; exact run_window _ g' m 6 (c' - m) P HB3.out (by rw [HPS.out]; omega)); clear hown' hgrow hnew))
      go_ret
      rw [HE.out]
      exact rpast_on hR H3.out.2.1 H3.out.2.2.1 H3.out.2.2.2.1 H3.out.2.2.2.2
  · have HE := hide (show pasteK p x = ((true, P), []) by rw [HR.out, if_neg (fun h => h6 h.1)])
    have m5 : (n : Int) < 6 := by omega
    have m7 : (n : Int) - 6 < 0 := by omega
    clear HR
    go_enter Tryd.func31, Tryd.ntmps31
    go_wp2_with (first
      | (at_builtin; refine wpList_dup _ rfl _ rfl v p rfl HOWN.out (by omega) ?_; intro v1 w1 hown1 hg1; have HO1 := hide hown1; have HG1 := hide hg1; have HBL := hide (Blk.new w1 5 [.int .u8 x]); clear hown1 hg1)
      | (at_builtin; refine wpList_row _ rfl _ _ rfl w.heap.size (by have := HG1.out.size; simp; omega) _ _ _ w1.heap.size _ rfl rfl (HO1.out.alloc _) (HBL.out.cell (i := 0) rfl) rfl (by omega) ?_; intro v' w2 hown' hgrow hnew; replace hown' : w2.ownsRow w.heap.size 5 1 v' P.size (byteV P) := (by rw [← HBV.out, HPS.out, HN.out]; exact hown'); replace hgrow : (w1.alloc (.cells #[.int .u8 x] 5)).grownBy w2 v1.ownBlock := hgrow; obtain ⟨g', c', hv', hc', -, -, -⟩ := bytes_form hown' (by rw [HPS.out]; omega); rw [HPS.out] at hv' hc'; subst hv'; have H3 := hide (HPW.out _ _ _ _ _ _ _ _ HG1.out HO1.out hgrow hown'); have d1 := H3.out.1.cell (i := 2) rfl; have f1 := H3.out.1.frozen 2; have hq3 := H3.out.2.2.1.cell (i := 2) rfl; clear hown' hgrow hnew))
    go_ret
    rw [HE.out]
    exact rpast_on hR H3.out.2.1 H3.out.2.2.1 H3.out.2.2.2.1 H3.out.2.2.2.2
end Go.Proofs.YtiilgeinkocanaaDoor
