/- The walk of limnerlaw05.UndoPlays (under way). -/
import Derived.Test.YtgpcpfohfoeclaaUpair
import Derived.Deep.RegionHeld3
import Derived.Deep.DeepCutAuto
import Derived.Deep.CutBlock
namespace Go.Proofs.Ytgpcpfohfoeclaa
open Go.RowKit

theorem nil_or_snoc {α : Type} (l : List α) : l = [] ∨ ∃ L b, l = L ++ [b] := by
  rcases List.eq_nil_or_concat l with h | ⟨L, b, h⟩
  · exact .inl h
  · exact .inr ⟨L, b, by rw [h, List.concat_eq_append]⟩
/-- The acts that a slice holds. -/
def Acts (W : World) (v : Value) (l : List (Int × Int × Int × Int)) : Prop :=
  ∃ A cap, v = .slice A l.length cap ∧ l.length ≤ maxLen ∧ ∀ j x, l[j]? = some x → ∃ b o, A = some ⟨b, o, none⟩ ∧ b < W.heap.size ∧ W.cell? ⟨b, o + j * 4, none⟩ = some (.int .u8 x.1) ∧ W.cell? ⟨b, o + j * 4 + 1, none⟩ = some (.int .u8 x.2.1) ∧ W.cell? ⟨b, o + j * 4 + 2, none⟩ = some (.int .i64 x.2.2.1) ∧ W.cell? ⟨b, o + j * 4 + 3, none⟩ = some (.int .i64 x.2.2.2) ∧ (0 ≤ x.1 ∧ x.1 ≤ 255) ∧ 0 ≤ x.2.1 ∧ x.2.1 ≤ 255

set_option maxHeartbeats 4000000 in
set_option maxRecDepth 100000 in
theorem UndoPlays_any (v : Value) (l : List (Int × Int × Int × Int)) (w : World) (h : Acts w v l) : Calls Try.prog 5 #[v] w fun e w' => e = .returned (.bool true) ∧ Below w.heap.size w w' := by
  obtain ⟨A, cap, rfl, hmax, hc⟩ := h
  have HC := hide hc
  clear hc
  unfold maxLen at hmax
  by_cases hsm : 300 < l.length
  · go_enter Try.func5, Try.ntmps5
    go_wp2_with fail
    refine (undone_any w).mono ?_; rintro e w1 ⟨rfl, hb1⟩
    go_wp2
    go_ret
    exact ⟨rfl, hb1⟩
  have HB := hide (Below.refl w.heap.size w)
  go_enter Try.func5, Try.ntmps5
  go_wp2_with fail
  refine (mk2 ⟨#[]⟩ _ (by decide)).mono ?_; rintro e w1 ⟨ga, rfl, t1, b1⟩
  replace HB := hide (HB.out.trans (b1.mono HB.out.size))
  have TA := hide t1
  clear t1 b1
  go_wp2_with fail
  refine (new_und w.heap.size (ga, 7, ⟨#[]⟩) _ HB.out.size TA.out).mono ?_; rintro e w2 ⟨rfl, u1, b1⟩
  obtain ⟨u, hu⟩ : ∃ m, w1.heap.size = m := ⟨_, rfl⟩
  rw [hu] at u1 ⊢
  clear hu
  replace HB := hide (HB.out.trans (b1.mono HB.out.size))
  have HU := hide u1
  clear u1 b1 TA
  go_wp2_with fail
  refine (rnew_any w.heap.size ⟨#[]⟩ 7 _ HB.out.size).mono ?_; rintro e w3 ⟨r, rfl, r1, b1⟩
  have HS := hide (show Both w3 w.heap.size u r (ga, 7, ⟨#[]⟩) [] [] 0 from ⟨HU.out.below b1, r1, by simp⟩)
  replace HB := hide (HB.out.trans (b1.mono HB.out.size))
  clear r1 b1 HU
  go_wp2_with fail
  go_loopg [5] (l.length) (fun gk i wr => ∃ (n : Nat) (cur : Nat × Int × ByteArray) (were gone : List (Nat × Int × ByteArray)) (o : Int), n ≤ l.length ∧ i = .int .i64 n ∧ Hid (gk = l.length - n) ∧ Hid (Short cur were gone) ∧ Hid (Both wr w.heap.size u r cur were gone o) ∧ Hid (Below w.heap.size w wr))
  case atStart => exact ⟨0, _, _, _, _, by omega, rfl, hide rfl, hide (fun x hx => by obtain rfl : x = (ga, 7, ⟨#[]⟩) := (by simpa using hx); exact (by decide : (⟨#[]⟩ : ByteArray).size ≤ 16384)), HS, HB⟩
  case round =>
    obtain ⟨n, cur, were, gone, o, hn, rfl, HG, HSh, HSr, HBr⟩ := hrel
    by_cases hlt : n < l.length
    · obtain ⟨⟨k, t, c, g⟩, hx⟩ : ∃ x, l[n]? = some x := ⟨_, List.getElem?_eq_getElem hlt⟩
      obtain ⟨b, of1, rfl, hbl, e0, e1, e2, e3, hk, ht0, ht1⟩ := HC.out n _ hx
      dsimp only at e0 e1 e2 e3 hk ht0 ht1
      have hb9 : ∀ q, wr.cell? ⟨b, q, none⟩ = w.cell? ⟨b, q, none⟩ := fun q => HBr.out.cell (p := ⟨b, q, none⟩) hbl
      have e0' := (hb9 _).trans e0
      have e1' := (hb9 _).trans e1
      have e2' := (hb9 _).trans e2
      have e3' := (hb9 _).trans e3
      have hbw : b < wr.heap.size := Nat.lt_of_lt_of_le hbl HBr.out.size
      clear hb9 e0 e1 e2 e3 hx
      go_upto_block 2 with (fail)
      have HA := hide (ActAt.new wr k t c g)
      have hb0 : Below wr.heap.size wr (wr.alloc (.cells #[.int .u8 k, .int .u8 t, .int .i64 c, .int .i64 g] 41)) := (Below.refl _ _).alloc (Nat.le_refl _) _
      have HSb := hide (HSr.out.below hb0)
      have HBb := hide (HBr.out.trans (hb0.mono HBr.out.size))
      obtain ⟨blk, hblk⟩ : ∃ q, wr.heap.size = q := ⟨_, rfl⟩
      obtain ⟨wb, hwb⟩ : ∃ q, wr.alloc (.cells #[.int .u8 k, .int .u8 t, .int .i64 c, .int .i64 g] 41) = q := ⟨_, rfl⟩
      rw [hwb] at HA HSb HBb ⊢
      rw [hblk] at HA ⊢
      clear hb0 hblk hwb HSr HBr e0' e1' e2' e3' hbw
      obtain ⟨-, a0, a1, a2, a3⟩ := HA.out
      have hbw : blk < wb.heap.size := World.block_lt_of_cell? _ _ a0
      go_cut [34] (fun _ wx => ∃ (cur : Nat × Int × ByteArray) (were gone : List (Nat × Int × ByteArray)) (o : Int), Hid (Short cur were gone) ∧ Hid (Both wx w.heap.size u r cur were gone o) ∧ Hid (Below w.heap.size w wx))
      case first =>
        obtain ⟨m, hm⟩ : ∃ m, k % 8 = m := ⟨_, rfl⟩
        have hm0 : 0 ≤ m := by omega
        have hm7 : m ≤ 7 := by omega
        by_cases h7 : m = 7
        · subst h7
          go_wp2_with fail
          refine (Move_und w.heap.size u cur were gone o c _ HSb.out.1 HBb.out.size).mono ?_; rintro e w4 ⟨rfl, s1, k1, b1⟩
          have HR := hide (HSb.out.2.1.kept k1)
          have HN := hide HSb.out.2.2
          have HU1 := hide s1
          obtain ⟨-, -, -, a2', -⟩ := HA.out.kept k1
          have HB4 := hide (HBb.out.trans b1)
          clear s1 k1 b1
          go_wp2_with fail
          refine (both_move w.heap.size u r cur were gone o c _ HU1.out HR.out HN.out HB4.out.size).mono ?_; rintro e w5 ⟨rfl, s1, b1⟩
          go_wp2_with fail
          go_meet
          exact ⟨(cur.1, c, cur.2.2), were, gone, o, hide (HSh.out.move c), hide s1, hide (HB4.out.trans b1)⟩
        by_cases h6 : m = 6
        · subst h6
          clear h7
          rcases nil_or_snoc gone with rfl | ⟨gs, y, rfl⟩
          · go_wp2_with fail
            refine (Redo_zero w.heap.size u cur were o _ HSb.out.1).mono ?_; rintro e w4 ⟨rfl, -, b1⟩
            have HS4 := hide (HSb.out.below b1)
            have HB4 := hide (HBb.out.trans (b1.mono HBb.out.size))
            clear b1
            go_wp2_with fail
            refine (both_forth_none w.heap.size u r cur were o _ HS4.out).mono ?_; rintro e w5 ⟨rfl, b1⟩
            have HS5 := hide (HS4.out.below b1)
            have HB5 := hide (HB4.out.trans (b1.mono HB4.out.size))
            clear b1
            go_wp2_with fail
            go_meet
            have b1 : Below w5.heap.size w5 (w5.alloc (.cells #[.string ⟨#[]⟩, .int .i64 0] 43)) := (Below.refl _ _).alloc (Nat.le_refl _) _
            exact ⟨cur, were, [], o, HSh, hide (HS5.out.below b1), hide (HB5.out.trans (b1.mono HB5.out.size))⟩
          · have hle := HSb.out.2.2
            have hl1 : gs.length ≤ 1000 := by simp at hle; omega
            have hl2 : were.length ≤ 1000 := by simp at hle; omega
            have HN := hide hle
            clear hle
            have HSZ := hide (HSh.out y (by simp))
            go_wp2_with fail
            refine (Redo_any w.heap.size u cur y gs were o _ HSb.out.1 HBb.out.size hl1 hl2).mono ?_; rintro e w4 ⟨rfl, s1, k1, b1⟩
            have HU4 := hide s1
            have HR4 := hide (HSb.out.2.1.kept k1)
            have HB4 := hide (HBb.out.trans b1)
            clear s1 k1 b1
            go_wp2_with fail
            refine (both_forth w.heap.size u r cur y were gs o _ HU4.out HR4.out HN.out HB4.out.size).mono ?_; rintro e w5 ⟨rfl, s1, b1⟩
            have HS5 := hide s1
            have HB5 := hide (HB4.out.trans b1)
            clear s1 b1
            have b1 : Below w5.heap.size w5 (w5.alloc (.cells #[.string y.2.2, .int .i64 y.2.1] 43)) := (Below.refl _ _).alloc (Nat.le_refl _) _
            have HS6 := hide (HS5.out.below b1)
            have HB6 := hide (HB5.out.trans (b1.mono HB5.out.size))
            clear b1
            go_wp2_with fail
            refine (is_true (.pointer (some ⟨y.1, 0, none⟩)) y.2.1 y.2.2 _ HSZ.out (HS6.out.1.2.1 y List.mem_cons_self)).mono ?_; rintro e w7 ⟨rfl, b1⟩
            have HS7 := hide (HS6.out.below b1)
            have HB7 := hide (HB6.out.trans (b1.mono HB6.out.size))
            clear b1
            go_wp2_with fail
            go_meet
            exact ⟨_, _, _, _, hide (HSh.out.forth), HS7, HB7⟩

        by_cases h5 : m = 5
        · subst h5
          clear h7 h6
          rcases nil_or_snoc were with rfl | ⟨ws, y, rfl⟩
          · go_wp2_with fail
            refine (Undo_zero w.heap.size u cur gone o _ HSb.out.1).mono ?_; rintro e w4 ⟨rfl, -, b1⟩
            have HS4 := hide (HSb.out.below b1)
            have HB4 := hide (HBb.out.trans (b1.mono HBb.out.size))
            clear b1
            go_wp2_with fail
            refine (both_back_none w.heap.size u r cur gone o _ HS4.out).mono ?_; rintro e w5 ⟨rfl, b1⟩
            have HS5 := hide (HS4.out.below b1)
            have HB5 := hide (HB4.out.trans (b1.mono HB4.out.size))
            clear b1
            go_wp2_with fail
            go_meet
            have b1 : Below w5.heap.size w5 (w5.alloc (.cells #[.string ⟨#[]⟩, .int .i64 0] 43)) := (Below.refl _ _).alloc (Nat.le_refl _) _
            exact ⟨cur, [], gone, o, HSh, hide (HS5.out.below b1), hide (HB5.out.trans (b1.mono HB5.out.size))⟩
          · have hle := HSb.out.2.2
            have hl1 : ws.length ≤ 1000 := by simp at hle; omega
            have hl2 : gone.length ≤ 1000 := by simp at hle; omega
            have HN := hide hle
            clear hle
            have HSZ := hide (HSh.out y (by simp))
            go_wp2_with fail
            refine (Undo_any w.heap.size u cur y ws gone o _ HSb.out.1 HBb.out.size hl1 hl2).mono ?_; rintro e w4 ⟨rfl, s1, k1, b1⟩
            have HU4 := hide s1
            have HR4 := hide (HSb.out.2.1.kept k1)
            have HB4 := hide (HBb.out.trans b1)
            clear s1 k1 b1
            go_wp2_with fail
            refine (both_back w.heap.size u r cur y ws gone o _ HU4.out HR4.out HN.out HB4.out.size).mono ?_; rintro e w5 ⟨rfl, s1, b1⟩
            have HS5 := hide s1
            have HB5 := hide (HB4.out.trans b1)
            clear s1 b1
            have b1 : Below w5.heap.size w5 (w5.alloc (.cells #[.string y.2.2, .int .i64 y.2.1] 43)) := (Below.refl _ _).alloc (Nat.le_refl _) _
            have HS6 := hide (HS5.out.below b1)
            have HB6 := hide (HB5.out.trans (b1.mono HB5.out.size))
            clear b1
            go_wp2_with fail
            refine (is_true (.pointer (some ⟨y.1, 0, none⟩)) y.2.1 y.2.2 _ HSZ.out (HS6.out.1.2.1 y List.mem_cons_self)).mono ?_; rintro e w7 ⟨rfl, b1⟩
            have HS7 := hide (HS6.out.below b1)
            have HB7 := hide (HB6.out.trans (b1.mono HB6.out.size))
            clear b1
            go_wp2_with fail
            go_meet
            exact ⟨_, _, _, _, hide (HSh.out.back), HS7, HB7⟩

        by_cases h4 : m = 4
        · subst h4
          clear h7 h6 h5
          rcases nil_or_snoc were with rfl | ⟨ws, y, rfl⟩
          · go_wp2_with fail
            refine (Undo_zero w.heap.size u cur gone o _ HSb.out.1).mono ?_; rintro e w4 ⟨rfl, -, b1⟩
            have HS4 := hide (HSb.out.below b1)
            have HB4 := hide (HBb.out.trans (b1.mono HBb.out.size))
            clear b1
            go_wp2_with fail
            refine (both_back_none w.heap.size u r cur gone o _ HS4.out).mono ?_; rintro e w5 ⟨rfl, b1⟩
            have HS5 := hide (HS4.out.below b1)
            have HB5 := hide (HB4.out.trans (b1.mono HB4.out.size))
            clear b1
            go_wp2_with fail
            go_meet
            have b1 : Below w5.heap.size w5 (w5.alloc (.cells #[.string ⟨#[]⟩, .int .i64 0] 43)) := (Below.refl _ _).alloc (Nat.le_refl _) _
            exact ⟨cur, [], gone, o, HSh, hide (HS5.out.below b1), hide (HB5.out.trans (b1.mono HB5.out.size))⟩
          · have hle := HSb.out.2.2
            have hl1 : ws.length ≤ 1000 := by simp at hle; omega
            have hl2 : gone.length ≤ 1000 := by simp at hle; omega
            have HN := hide hle
            clear hle
            have HSZ := hide (HSh.out y (by simp))
            go_wp2_with fail
            refine (Undo_any w.heap.size u cur y ws gone o _ HSb.out.1 HBb.out.size hl1 hl2).mono ?_; rintro e w4 ⟨rfl, s1, k1, b1⟩
            have HU4 := hide s1
            have HR4 := hide (HSb.out.2.1.kept k1)
            have HB4 := hide (HBb.out.trans b1)
            clear s1 k1 b1
            go_wp2_with fail
            refine (both_back w.heap.size u r cur y ws gone o _ HU4.out HR4.out HN.out HB4.out.size).mono ?_; rintro e w5 ⟨rfl, s1, b1⟩
            have HS5 := hide s1
            have HB5 := hide (HB4.out.trans b1)
            clear s1 b1
            have b1 : Below w5.heap.size w5 (w5.alloc (.cells #[.string y.2.2, .int .i64 y.2.1] 43)) := (Below.refl _ _).alloc (Nat.le_refl _) _
            have HS6 := hide (HS5.out.below b1)
            have HB6 := hide (HB5.out.trans (b1.mono HB5.out.size))
            clear b1
            go_wp2_with fail
            refine (is_true (.pointer (some ⟨y.1, 0, none⟩)) y.2.1 y.2.2 _ HSZ.out (HS6.out.1.2.1 y List.mem_cons_self)).mono ?_; rintro e w7 ⟨rfl, b1⟩
            have HS7 := hide (HS6.out.below b1)
            have HB7 := hide (HB6.out.trans (b1.mono HB6.out.size))
            clear b1
            go_wp2_with fail
            go_meet
            exact ⟨_, _, _, _, hide (HSh.out.back), HS7, HB7⟩

        have q4 : (m == 4) = false := by simp; omega
        have q5 : (m == 5) = false := by simp; omega
        have q6 : (m == 6) = false := by simp; omega
        have q7 : (m == 7) = false := by simp; omega
        clear h7 h6 h5 h4
        obtain ⟨were', o', hmem, D1, D2⟩ := do_pair w.heap.size u r cur were gone o g
        have HM := hide hmem
        have HD1 := hide D1
        have HD2 := hide D2
        have HN := hide HSb.out.2.2
        clear hmem D1 D2
        go_wp2_with fail
        go_region_held3 (fun w' => w'.cell? ⟨blk, 1, none⟩ = some (.int .u8 t) ∧ w'.cell? ⟨blk, 2, none⟩ = some (.int .i64 c) ∧ w'.cell? ⟨blk, 3, none⟩ = some (.int .i64 g))
          (first | exact HA9.out.three | exact HA8.out.three | exact HA7.out.three | exact HA.out.three_d)
          (first
            | (go_at_call 11; refine (bytes_any t _ ht0 ht1).mono ?_; rintro e w7 ⟨rfl, b1⟩; have HB7 := hide (below_via b1); have HA7 := hide (HA.out.below HB7.out); clear b1)
            | (go_at_call 9; refine (mk2 (byteS t) _ (byteS_le t)).mono ?_; rintro e w8 ⟨g8, rfl, t8, b1⟩; have HT8 := hide t8; have HB8 := hide (HB7.out.trans (b1.mono HB7.out.size)); have HA8 := hide (HA7.out.below b1); clear t8 b1)
            | (go_at_call 10; refine (HD1.out (g8, c, byteS t) _ (HSb.out.1.below HB8.out) (Nat.le_trans HBb.out.size HB8.out.size) (by have := HN.out; omega) HT8.out).mono ?_; rintro e w9 ⟨rfl, s1, k1, b1⟩; have HU9 := hide s1; have HR9 := hide ((HSb.out.2.1.below HB8.out).kept k1); have HA9 := hide (HA8.out.kept k1); have HB9 := hide ((HBb.out.trans (HB8.out.mono HBb.out.size)).trans b1); clear s1 k1 b1))
        all_goals go_wp2_with fail
        all_goals go_region_held3 (fun w' => w'.cell? ⟨blk, 1, none⟩ = some (.int .u8 t) ∧ w'.cell? ⟨blk, 2, none⟩ = some (.int .i64 c) ∧ w'.cell? ⟨blk, 3, none⟩ = some (.int .i64 g))
          (first | exact HA11.out.three | exact HA10.out.three | exact HA9.out.three_d)
          (first
            | (go_at_call 11; refine (bytes_any t _ ht0 ht1).mono ?_; rintro e w10 ⟨rfl, b1⟩; have HB10 := hide (below_via b1); have HA10 := hide (HA9.out.below HB10.out); clear b1)
            | (go_at_call 21; refine (HD2.out (g8, c, byteS t) _ (HU9.out.below HB10.out) (HR9.out.below HB10.out) HN.out (Nat.le_trans HB9.out.size HB10.out.size)).mono ?_; rintro e w11 ⟨rfl, s1, k1, b1⟩; have HS11 := hide s1; have HA11 := hide (HA10.out.keptR k1); have HB11 := hide ((HB9.out.trans (HB10.out.mono HB9.out.size)).trans b1); clear s1 k1 b1))
        all_goals go_wp2_with fail
        all_goals go_meet
        all_goals exact ⟨(g8, c, byteS t), were', [], o', hide (HSh.out.put (byteS_le t) HM.out), HS11, HB11⟩
      case rest =>
        obtain ⟨cur, were, gone, o, HSh, HSc, HBc⟩ := hcut
        go_wp2_with fail
        refine (now_und w.heap.size u _ were gone o _ HSc.out.1).mono ?_; rintro e w6 ⟨rfl, b1⟩
        have HS6 := hide (HSc.out.below b1)
        have HB6 := hide (HBc.out.trans (b1.mono HBc.out.size))
        clear b1
        obtain ⟨g9, of9, cp9, n9, w9, q9, z9, k9, ew, ez, hw1, hw2⟩ := look_at HS6.out HB6.out
        have HW9 := hide ew
        have HZ9 := hide ez
        clear ew ez
        have HSZ := hide (HSh.out cur List.mem_cons_self)
        have hfs := fun W => (field_s cur.2.2 cur.2.1 W).1
        have hfc := fun W => (field_s cur.2.2 cur.2.1 W).2
        have K9 := hide k9
        clear k9
        go_wp2_with fail
        go_region_held3 (fun w' => w'.cell? ⟨r, 0, none⟩ = some (.slice (some ⟨g9, of9, none⟩) n9 cp9) ∧ w'.cell? ⟨r, 1, none⟩ = some (.int .i64 (w9 : Nat)) ∧ Both w' w.heap.size u r cur were gone o ∧ Below w.heap.size w w')
          (first | exact K9.out.drew | exact look_kept (by assumption) hb2)
          (first
            | (go_at_call 22; refine (rnow_any w.heap.size r _ were.length o _ _ (by assumption : _ ∧ _ ∧ Both _ w.heap.size u r cur were gone o ∧ _).2.2.1.2.1 (both_now _ were gone)).mono ?_; rintro e w7 ⟨rfl, hb2⟩)
            | (go_at_call 14; refine (steps_at w.heap.size u cur were gone o w9 z9 _ (by assumption : _ ∧ _ ∧ Both _ w.heap.size u r cur were gone o ∧ _).2.2.1.1 HW9.out HZ9.out).mono ?_; rintro e w7 ⟨rfl, hb2⟩)
            | (go_at_call 13; refine (is_true (.pointer (some ⟨cur.1, 0, none⟩)) cur.2.1 cur.2.2 _ HSZ.out ((by assumption : _ ∧ _ ∧ Both _ w.heap.size u r cur were gone o ∧ _).2.2.1.1.2.1 cur List.mem_cons_self)).mono ?_; rintro e w7 ⟨rfl, hb2⟩))
        all_goals go_wp2_with fail
        all_goals go_roundg (l.length - (n + 1))
        case rel =>
          rename_i hH
          exact ⟨n + 1, cur, were, gone, o, by omega, by go_num, hide rfl, HSh, hide hH.2.2.1, hide hH.2.2.2⟩
        case measure =>
          have := HG.out
          omega
    · obtain rfl : n = l.length := by omega
      go_wp2_with fail
      refine (undone_any _).mono ?_; rintro e w4 ⟨rfl, b1⟩
      replace HBr := hide (HBr.out.trans (b1.mono HBr.out.size))
      go_wp2
      go_ret
      exact ⟨rfl, HBr.out⟩
end Go.Proofs.Ytgpcpfohfoeclaa
