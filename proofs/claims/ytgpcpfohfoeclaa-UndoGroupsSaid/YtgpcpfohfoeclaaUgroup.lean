/- The walk of limnerlaw05.UndoGroups. -/
import Derived.Test.YtgpcpfohfoeclaaUhist
namespace Go.Proofs.Ytgpcpfohfoeclaa
open Go.RowKit

/-- The oldest state is the first one. -/
def Oldest (L : List (Nat × Int × ByteArray)) : Prop := ∀ x, L[0]? = some x → x.2.1 = 0 ∧ x.2.2 = ⟨#[122]⟩
theorem Oldest.snoc {L : List (Nat × Int × ByteArray)} (h : Oldest L) (hl : 0 < L.length) (x : Nat × Int × ByteArray) : Oldest (L ++ [x]) := by
  intro y hy
  rw [List.getElem?_append_left hl] at hy
  exact h y hy
/-- So many steps, for the group q. -/
def GSt (W : World) (B u m : Nat) (q : Int) : Prop := ∃ cur were, Und W B u cur were [] q ∧ were.length = m ∧ (0 < q → 0 < m) ∧ Oldest (were ++ [cur])
theorem GSt.below {A W : World} {B u m : Nat} {q : Int} (h : GSt A B u m q) (hb : Below A.heap.size A W) : GSt W B u m q := by
  obtain ⟨cur, were, h, r⟩ := h
  exact ⟨cur, were, h.below hb, r⟩
theorem gst_do (B u m g0 : Nat) (c : Int) (s : ByteArray) (q g : Int) (w : World) (h : GSt w B u m q) (hB : B ≤ w.heap.size) (hm : m ≤ 90) (hx : TextAt w (.pointer (some ⟨g0, 0, none⟩)) (onePiece s)) (h0 : 0 ≤ g) (h3 : g ≤ 3) (hg : g = 0 ∨ g ≠ q) :
    Calls Try.prog 10 #[.pointer (some ⟨u, 0, none⟩), .pointer (some ⟨g0, 0, none⟩), .int .i64 c, .int .i64 g] w fun e w' => e = .returned (.bool true) ∧ GSt w' B u (m + 1) g ∧ Kept w w' ∧ Below B w w' := by
  obtain ⟨cur, were, h, hl, h1, h2⟩ := h
  refine (Do_open B u cur (g0, c, s) were [] q g w h hB (by omega) hx ?_ (by omega) (by omega)).mono ?_
  · rcases hg with rfl | hg
    · simp
    · simp [hg]
  · rintro e w' ⟨rfl, hu, hk, hb⟩
    have e1 : max g 0 = g := by omega
    rw [e1, show were.length + 1 - 100 = 0 by omega, List.drop_zero] at hu
    exact ⟨rfl, ⟨_, _, hu, by simp [hl], fun _ => by omega, h2.snoc (by simp) _⟩, hk, hb⟩
theorem gst_same (B u m g0 : Nat) (c : Int) (s : ByteArray) (q : Int) (w : World) (h : GSt w B u m q) (hB : B ≤ w.heap.size) (hx : TextAt w (.pointer (some ⟨g0, 0, none⟩)) (onePiece s)) (hq : 0 < q) :
    Calls Try.prog 10 #[.pointer (some ⟨u, 0, none⟩), .pointer (some ⟨g0, 0, none⟩), .int .i64 c, .int .i64 q] w fun e w' => e = .returned (.bool true) ∧ GSt w' B u m q ∧ Kept w w' ∧ Below B w w' := by
  obtain ⟨cur, were, h, hl, h1, h2⟩ := h
  refine (Do_same B u cur (g0, c, s) were [] q w h hB hx hq).mono ?_
  rintro e w' ⟨rfl, hu, hk, hb⟩
  have hp := h1 hq
  refine ⟨rfl, ⟨_, _, hu, hl, h1, fun y hy => ?_⟩, hk, hb⟩
  rw [List.getElem?_append_left (by omega)] at hy
  exact h2 y (by rw [List.getElem?_append_left (by omega)]; exact hy)
theorem gst_steps (B u m : Nat) (q : Int) (a : Int) (w : World) (h : GSt w B u m q) (ha : (m : Int) = a) :
    Calls Try.prog 14 #[.pointer (some ⟨u, 0, none⟩), .int .i64 a, .int .i64 0] w fun e w' => e = .returned (.bool true) ∧ Below w.heap.size w w' := by
  obtain ⟨cur, were, h, hl, h1, h2⟩ := h
  have h9 := steps_und B u cur were [] q w h
  rw [hl, ha] at h9
  exact h9
/-- So many steps are left to undo. -/
def GU (W : World) (B u m : Nat) : Prop := ∃ cur were gone o, Und W B u cur were gone o ∧ were.length = m ∧ gone.length + m ≤ 200 ∧ Oldest (were ++ [cur])
theorem GU.below {A W : World} {B u m : Nat} (h : GU A B u m) (hb : Below A.heap.size A W) : GU W B u m := by
  obtain ⟨cur, were, gone, o, h, r⟩ := h
  exact ⟨cur, were, gone, o, h.below hb, r⟩
theorem GSt.gu {W : World} {B u m : Nat} {q : Int} (h : GSt W B u m q) (hm : m ≤ 100) : GU W B u m := by
  obtain ⟨cur, were, h, hl, h1, h2⟩ := h
  exact ⟨cur, were, [], q, h, hl, by simp; omega, h2⟩
theorem gu_undo (B u m : Nat) (w : World) (h : GU w B u (m + 1)) (hB : B ≤ w.heap.size) :
    Calls Try.prog 12 #[.pointer (some ⟨u, 0, none⟩)] w fun e w' => ∃ p c, e = .returned (.tuple #[p, c, .bool true]) ∧ GU w' B u m ∧ Below B w w' := by
  obtain ⟨cur, were, gone, o, h, hl, hg, h2⟩ := h
  obtain ⟨ws, y, rfl⟩ : ∃ ws y, were = ws ++ [y] := by
    have : were ≠ [] := fun e => by rw [e] at hl; simp at hl
    exact ⟨_, _, (List.dropLast_concat_getLast this).symm⟩
  have hlw : ws.length = m := by simp at hl; omega
  refine (Undo_any B u cur y ws gone o w h hB (by omega) (by omega)).mono ?_
  rintro e w' ⟨rfl, hu, hk, hb⟩
  refine ⟨_, _, rfl, ⟨y, ws, _, 0, hu, hlw, by simp; omega, fun z hz => h2 z ?_⟩, hb⟩
  rw [List.getElem?_append_left (by simp)]
  exact hz
theorem gu_now (B u : Nat) (w : World) (h : GU w B u 0) : ∃ g, TextAt w (.pointer (some ⟨g, 0, none⟩)) (onePiece ⟨#[122]⟩) ∧
    Calls Try.prog 16 #[.pointer (some ⟨u, 0, none⟩)] w fun e w' => e = .returned (.tuple #[.pointer (some ⟨g, 0, none⟩), .int .i64 0]) ∧ Below w.heap.size w w' := by
  obtain ⟨⟨g, c, s⟩, were, gone, o, h, hl, hg, h2⟩ := h
  obtain rfl : were = [] := List.length_eq_zero_iff.1 hl
  obtain ⟨hc, hs⟩ := h2 (g, c, s) rfl
  dsimp only at hc hs
  subst hc hs
  exact ⟨g, h.2.1 _ List.mem_cons_self, now_und B u _ _ _ o w h⟩
theorem gu_zero (B u : Nat) (w : World) (h : GU w B u 0) :
    Calls Try.prog 12 #[.pointer (some ⟨u, 0, none⟩)] w fun e w' => e = .returned (.tuple #[.pointer none, .int .i64 0, .bool false]) ∧ Below w.heap.size w w' := by
  obtain ⟨cur, were, gone, o, h, hl, hg, h2⟩ := h
  obtain rfl : were = [] := List.length_eq_zero_iff.1 hl
  refine (Undo_zero B u cur gone o w h).mono ?_
  rintro e w' ⟨rfl, _, hb⟩
  exact ⟨rfl, hb⟩

set_option maxHeartbeats 2000000 in
set_option maxRecDepth 100000 in
theorem UndoGroups_any (v : Value) (zs : List Int) (w : World) (h : Nums w v zs) : Calls Try.prog 4 #[v] w fun e w' => e = .returned (.bool true) ∧ Below w.heap.size w w' := by
  obtain ⟨A, cap, rfl, hmax, hc⟩ := h
  have HC := hide hc
  have HM := hide hmax
  clear hc
  unfold maxLen at hmax
  by_cases hsm : 60 < zs.length
  · go_enter Try.func4, Try.ntmps4
    go_wp2_with fail
    refine (undone_any w).mono ?_; rintro e w1 ⟨rfl, hb1⟩
    go_wp2
    go_ret
    exact ⟨rfl, hb1⟩
  have HB := hide (Below.refl w.heap.size w)
  go_enter Try.func4, Try.ntmps4
  go_wp2_with fail
  refine (mk2 ⟨#[122]⟩ _ (by decide)).mono ?_; rintro e w1 ⟨ga, rfl, t1, b1⟩
  replace HB := hide (HB.out.trans (b1.mono HB.out.size))
  have TA := hide t1
  clear t1 b1
  go_wp2_with fail
  refine (new_und w.heap.size (ga, 0, ⟨#[122]⟩) _ HB.out.size TA.out).mono ?_; rintro e w2 ⟨rfl, u1, b1⟩
  obtain ⟨u, hu⟩ : ∃ m, w1.heap.size = m := ⟨_, rfl⟩
  rw [hu] at u1 ⊢
  clear hu
  replace HB := hide (HB.out.trans (b1.mono HB.out.size))
  have HS := hide (show GSt w2 w.heap.size u 0 0 from ⟨_, _, u1, rfl, fun h => by omega, fun x hx => by obtain rfl : (ga, (0 : Int), (⟨#[122]⟩ : ByteArray)) = x := (by simpa using hx); exact ⟨rfl, rfl⟩⟩)
  clear u1 b1 TA
  go_wp2_with fail
  go_loopw [4, 5, 6] (fun many last i wr => ∃ (k m : Nat) (q : Int), k ≤ zs.length ∧ m ≤ k ∧ many = .int .i64 m ∧ last = .int .i64 q ∧ i = .int .i64 k ∧ 0 ≤ q ∧ q ≤ 3 ∧ Hid (GSt wr w.heap.size u m q) ∧ Hid (Below w.heap.size w wr)) (fun _ _ i _ => zs.length - (intOf i).toNat)
  case atStart => exact ⟨0, 0, 0, by omega, by omega, rfl, rfl, rfl, by omega, by omega, HS, HB⟩
  case round =>
    obtain ⟨k, m, q, hk, hmk, rfl, rfl, rfl, hq0, hq3, HSt, HBr⟩ := hrel
    by_cases hlt : k < zs.length
    · obtain ⟨b, o, rfl, hcell, hr0, hr1⟩ := HC.out k hlt
      have hcell' := (HBr.out.cell (p := ⟨b, o + k, none⟩) (World.block_lt_of_cell? _ _ hcell)).trans hcell
      generalize zs.getD k 0 = n at *
      obtain ⟨g, hg⟩ : ∃ g, n % 4 = g := ⟨_, rfl⟩
      have hg0 : 0 ≤ g := by omega
      have hg3 : g ≤ 3 := by omega
      by_cases hgq : g = 0 ∨ g ≠ q
      · by_cases hgz : g = 0
        · subst hgz
          go_wp2_with fail
          refine (mk2 ⟨#[121]⟩ _ (by decide)).mono ?_; rintro e w3 ⟨g0, rfl, t1, b1⟩
          replace HBr := hide (HBr.out.trans (b1.mono HBr.out.size))
          replace HSt := hide (HSt.out.below b1)
          have HT := hide t1
          clear b1 t1 hcell hcell'
          go_wp2_with fail
          refine (gst_do w.heap.size u m g0 1 ⟨#[121]⟩ q 0 _ HSt.out HBr.out.size (by omega) HT.out (by omega) (by omega) (.inl rfl)).mono ?_; rintro e w4 ⟨rfl, s1, k1, b1⟩
          replace HBr := hide (HBr.out.trans b1)
          replace HSt := hide s1
          clear s1 k1 b1 HT
          go_wp2_with fail
          refine (gst_steps w.heap.size u (m + 1) 0 ((m : Int) + 1) _ HSt.out (by omega)).mono ?_; rintro e w5 ⟨rfl, b1⟩
          replace HBr := hide (HBr.out.trans (b1.mono HBr.out.size))
          replace HSt := hide (HSt.out.below b1)
          clear b1
          go_wp2
          go_roundw
          case rel => exact ⟨k + 1, (m + 1), 0, by omega, by omega, by go_num, by go_num, by go_num, by omega, by omega, HSt, HBr⟩
          case measure => simp [intOf]; omega
        · have hne : g ≠ q := by rcases hgq with h | h; exact absurd h hgz; exact h
          have HNE := hide hne
          have hb1 : (g != q) = true := by simpa using hne
          have hb2 : (g == 0) = false := by simpa using hgz
          clear hgq
          go_wp2_with fail
          refine (mk2 ⟨#[121]⟩ _ (by decide)).mono ?_; rintro e w3 ⟨g0, rfl, t1, b1⟩
          replace HBr := hide (HBr.out.trans (b1.mono HBr.out.size))
          replace HSt := hide (HSt.out.below b1)
          have HT := hide t1
          clear b1 t1 hcell hcell'
          go_wp2_with fail
          refine (gst_do w.heap.size u m g0 1 ⟨#[121]⟩ q g _ HSt.out HBr.out.size (by omega) HT.out hg0 hg3 (.inr HNE.out)).mono ?_; rintro e w4 ⟨rfl, s1, k1, b1⟩
          replace HBr := hide (HBr.out.trans b1)
          replace HSt := hide s1
          clear s1 k1 b1 HT
          go_wp2_with fail
          refine (gst_steps w.heap.size u (m + 1) g ((m : Int) + 1) _ HSt.out (by omega)).mono ?_; rintro e w5 ⟨rfl, b1⟩
          replace HBr := hide (HBr.out.trans (b1.mono HBr.out.size))
          replace HSt := hide (HSt.out.below b1)
          clear b1
          go_wp2
          go_roundw
          case rel => exact ⟨k + 1, (m + 1), g, by omega, by omega, by go_num, by go_num, by go_num, by omega, by omega, HSt, HBr⟩
          case measure => simp [intOf]; omega
      · obtain ⟨hgz, rfl⟩ : g ≠ 0 ∧ g = q := by
          constructor
          · exact fun h => hgq (.inl h)
          · by_cases h : g = q
            · exact h
            · exact absurd (.inr h) hgq
        have HGP := hide (show 0 < g by omega)
        clear hgq
        go_wp2_with fail
        refine (mk2 ⟨#[121]⟩ _ (by decide)).mono ?_; rintro e w3 ⟨g0, rfl, t1, b1⟩
        replace HBr := hide (HBr.out.trans (b1.mono HBr.out.size))
        replace HSt := hide (HSt.out.below b1)
        have HT := hide t1
        clear b1 t1 hcell hcell'
        go_wp2_with fail
        refine (gst_same w.heap.size u m g0 1 ⟨#[121]⟩ g _ HSt.out HBr.out.size HT.out HGP.out).mono ?_; rintro e w4 ⟨rfl, s1, k1, b1⟩
        replace HBr := hide (HBr.out.trans b1)
        replace HSt := hide s1
        clear s1 k1 b1 HT
        go_wp2_with fail
        refine (gst_steps w.heap.size u m g (m : Int) _ HSt.out (by omega)).mono ?_; rintro e w5 ⟨rfl, b1⟩
        replace HBr := hide (HBr.out.trans (b1.mono HBr.out.size))
        replace HSt := hide (HSt.out.below b1)
        clear b1
        go_wp2
        go_roundw
        case rel => exact ⟨k + 1, m, g, by omega, by omega, by go_num, by go_num, by go_num, by omega, by omega, HSt, HBr⟩
        case measure => simp [intOf]; omega
    · obtain rfl : k = zs.length := by omega
      have HU := hide (HSt.out.gu (by omega))
      go_wp2_with fail
      go_loopw [8] (fun i wr => ∃ j : Nat, j ≤ m ∧ i = .int .i64 (j : Int) ∧ Hid (GU wr w.heap.size u (m - j)) ∧ Hid (Below w.heap.size w wr)) (fun i _ => m - (intOf i).toNat)
      case atStart => exact ⟨0, by omega, rfl, HU, HBr⟩
      case round =>
        obtain ⟨j, hj, rfl, HUj, HBj⟩ := hrel
        by_cases hlt2 : j < m
        · have HU2 := hide (show GU wr w.heap.size u ((m - (j + 1)) + 1) by rw [show m - (j + 1) + 1 = m - j by omega]; exact HUj.out)
          go_wp2_with fail
          refine (gu_undo w.heap.size u (m - (j + 1)) _ HU2.out HBj.out.size).mono ?_; rintro e w3 ⟨p, c, rfl, s1, b1⟩
          replace HBj := hide (HBj.out.trans b1)
          have HU3 := hide s1
          clear s1 b1
          go_wp2
          go_roundw
          case rel => exact ⟨j + 1, by omega, by go_num, HU3, HBj⟩
          case measure => simp [intOf]; omega
        · obtain rfl : j = m := by omega
          have HU0 := hide (show GU wr w.heap.size u 0 by have := HUj.out; rw [Nat.sub_self] at this; exact this)
          obtain ⟨g, t1, hnow⟩ := gu_now w.heap.size u _ HU0.out
          have HT := hide t1
          have HNOW := hide hnow
          clear t1 hnow
          go_wp2_with fail
          refine HNOW.out.mono ?_; rintro e w3 ⟨rfl, b1⟩
          replace HBj := hide (HBj.out.trans (b1.mono HBj.out.size))
          replace HU0 := hide (HU0.out.below b1)
          replace HT := hide (HT.out.below b1)
          clear b1
          go_wp2_with fail
          refine (gu_zero w.heap.size u _ HU0.out).mono ?_; rintro e w4 ⟨rfl, b1⟩
          replace HBj := hide (HBj.out.trans (b1.mono HBj.out.size))
          replace HT := hide (HT.out.below b1)
          clear b1
          by_cases hz : zs.length = 0
          · go_wp2_with fail
            refine (undone_any _).mono ?_; rintro e w5 ⟨rfl, b1⟩
            replace HBj := hide (HBj.out.trans (b1.mono HBj.out.size))
            go_wp2
            go_ret
            exact ⟨rfl, HBj.out⟩
          · go_wp2_with fail
            refine (is_true _ 0 ⟨#[122]⟩ _ (by decide) HT.out).mono ?_; rintro e w5 ⟨rfl, b1⟩
            replace HBj := hide (HBj.out.trans (b1.mono HBj.out.size))
            clear b1
            go_wp2_with fail
            refine (undone_any _).mono ?_; rintro e w6 ⟨rfl, b1⟩
            replace HBj := hide (HBj.out.trans (b1.mono HBj.out.size))
            go_wp2
            go_ret
            exact ⟨rfl, HBj.out⟩
end Go.Proofs.Ytgpcpfohfoeclaa
