/- Terminal: what the chapter's examples ask. Terminal: the chapter's terminal. Terminal: one that is none. TermNone: the walk. -/
import Derived.Test.YtmemdhmjhckmaaaDoorZ23
import Derived.Test.YtmemdhmjhckmaaaDoorZ25
import Derived.Deep.RegionHeld3
import Derived.Test.YtmemdhmjhckmaaaDoorZ6
namespace Go.Proofs.YtmemdhmjhckmaaaDoor
open Go.RowKit
set_option maxRecDepth 100000

def Yb (V : World) (y : Nat) (A : Option Addr) (n c row col : Nat) : Prop := Blk V y 35 [.int .i64 2, .int .i64 8, .slice A n c, .int .i64 (row : Int), .int .i64 (col : Int)]
theorem Yb.c5 {V : World} {y : Nat} {A : Option Addr} {n c row col : Nat} (h : Yb V y A n c row col) : V.cell? ⟨y, 0, none⟩ = some (.int .i64 2) ∧ V.cell? ⟨y, 1, none⟩ = some (.int .i64 8) ∧ V.cell? ⟨y, 2, none⟩ = some (.slice A n c) ∧ V.cell? ⟨y, 3, none⟩ = some (.int .i64 (row : Int)) ∧ V.cell? ⟨y, 4, none⟩ = some (.int .i64 (col : Int)) :=
  ⟨Blk.cell (i := 0) h rfl, Blk.cell (i := 1) h rfl, Blk.cell (i := 2) h rfl, Blk.cell (i := 3) h rfl, Blk.cell (i := 4) h rfl⟩
theorem OwnS.form9 {W : World} {B : Nat} {v : Value} {L : List ByteArray} (h : OwnS W B v L) : ∃ A c, v = .slice A L.length c := own_formA h
theorem acts_RC (t : Tm) (a : Ac) : (actM t a).rows = t.rows ∧ (actM t a).cols = t.cols := by
  have hf : ∀ t : Tm, (feedM t).rows = t.rows ∧ (feedM t).cols = t.cols := fun t => by unfold feedM; split <;> exact ⟨rfl, rfl⟩
  have hc : ∀ (t : Tm) (n : Int) (f q : Nat), (clearM t n f q).rows = t.rows ∧ (clearM t n f q).cols = t.cols := fun t n f q => by
    unfold clearM; dsimp only; (repeat' split) <;> exact ⟨rfl, rfl⟩
  unfold actM
  split
  · unfold showM
    have : ∀ (t : Tm) r m, (layM t r m).rows = t.rows ∧ (layM t r m).cols = t.cols := fun _ _ _ => ⟨rfl, rfl⟩
    rw [(this _ _ _).1, (this _ _ _).2]
    split
    · exact hf _
    · exact ⟨rfl, rfl⟩
  split
  · unfold ctlM
    (repeat' split) <;> (try exact ⟨rfl, rfl⟩)
    exact hf _
  split
  · unfold seqM
    dsimp only
    (repeat' split) <;> (try exact ⟨rfl, rfl⟩) <;> exact hc _ _ _ _
  · exact ⟨rfl, rfl⟩
theorem step_RC (t : Tm) (x : Int) : (stepM t x).rows = t.rows ∧ (stepM t x).cols = t.cols := by
  have key : ∀ (L : List Ac) (t : Tm), (L.foldl actM t).rows = t.rows ∧ (L.foldl actM t).cols = t.cols := fun L => by
    induction L with
    | nil => exact fun t => ⟨rfl, rfl⟩
    | cons a L ih => exact fun t => ⟨(ih _).1.trans (acts_RC t a).1, (ih _).2.trans (acts_RC t a).2⟩
  exact key _ _
theorem write_RC (t : Tm) (s : ByteArray) : ∀ k, (writeTo t s k).rows = t.rows ∧ (writeTo t s k).cols = t.cols
  | 0 => ⟨rfl, rfl⟩
  | k + 1 => ⟨(step_RC _ _).1.trans (write_RC t s k).1, (step_RC _ _).2.trans (write_RC t s k).2⟩
/-- The terminal of the chapter's examples. -/
def exM (s : ByteArray) : Tm := writeM (newM 2 8) s
def exOk (s one two : ByteArray) (row col : Nat) : Prop := rowsF (frM (exM s)) = [(one ++ ⟨#[32, 32, 32, 32, 32, 32, 32, 32]⟩).extract 0 8, two] ∧ (exM s).row = row ∧ (exM s).col = col
set_option maxHeartbeats 8000000 in
theorem shows_any (w0 W : World) (hT : Tabs w0) (hb : Below w0.heap.size w0 W) (s one two : ByteArray) (row col : Nat) (hs : s.size ≤ 1000) (h1 : one.size ≤ 1000) (hx : exOk s one two row col) :
    Calls Tryd.prog 25 #[.string s, .string one, .string two, .int .i64 (row : Int), .int .i64 (col : Int)] W fun e W' => e = .returned (.bool true) ∧ Below W.heap.size W W' := by
  have hm : mayB (2 : Nat) (8 : Nat) = true := by decide
  have hI := Inv.new hm
  have HNW := hide (tnew_any 2 8 hm w0 W hT hb)
  have hst : StOk 0 (newM 2 8).p := .inl ⟨rfl, rfl⟩
  obtain ⟨f1, f2, f3⟩ := write_facts hI s hst s.size
  obtain ⟨r1, r2⟩ := write_RC (newM 2 8) s s.size
  have HWR := hide (fun (V : World) (z g cap : Nat) (H : TmB w0 V z g cap (newM 2 8)) => twrite_any (newM 2 8) H hT hI s (by omega) 0 (by omega) hst (by show (0 : Nat) ≤ _; omega))
  obtain ⟨hx1, hx2, hx3⟩ := hx
  have e1 : writeTo (newM 2 8) s s.size = exM s := rfl
  have e2 : writeM (newM 2 8) s = exM s := rfl
  rw [e1] at f1 r1 r2
  rw [e2] at HWR
  have hcl := f1.hL
  rw [r1, r2] at hcl
  have hcl2 : (exM s).cs.length = 16 := hcl
  have HFR := hide (fun (V : World) (z g cap : Nat) (H : TmB w0 V z g cap (exM s)) => tframe_any (exM s) H (by omega) (by omega))
  have hfr : frM (exM s) = ⟨2, 8, (exM s).cs, row, col⟩ := by
    unfold frM
    rw [r1, r2, hx2, hx3]
    rfl
  rw [hfr] at hx1 HFR
  have HRW := hide hx1
  obtain ⟨cs, hcs⟩ : ∃ cs, (exM s).cs = cs := ⟨_, rfl⟩
  rw [hcs] at hcl2 HFR HRW
  have HCS := hide hcl2
  obtain ⟨ts, hts⟩ : ∃ t, exM s = t := ⟨_, rfl⟩
  rw [hts] at HWR HFR
  obtain ⟨T, hTT⟩ : ∃ T, one ++ ⟨#[32, 32, 32, 32, 32, 32, 32, 32]⟩ = T := ⟨_, rfl⟩
  rw [hTT] at HRW
  have hT8 : 8 ≤ T.size := by rw [← hTT, ByteArray.size_append]; show 8 ≤ one.size + 8; omega
  have hT9 : T.size ≤ 2000 := by rw [← hTT, ByteArray.size_append]; show one.size + 8 ≤ 2000; omega
  have HTT := hide hTT
  have HWB := hide hb
  clear hb hx1 hx2 hx3 hcs hts hTT f1 f2 f3 r1 r2 e1 e2 hcl hfr hI hst hm hcl2
  go_enter Tryd.func25, Tryd.ntmps25
  go_wp2_with fail
  refine HNW.out.mono ?_; rintro e w1 ⟨z, g, cap, rfl, h1', hb1, hz, hg⟩
  go_wp2_with fail
  refine (HWR.out _ z g cap h1').mono ?_; rintro e w2 ⟨rfl, h2, k2⟩
  have HB2 := hide (k2.belowB hz hg hb1 hb1.size)
  go_wp2_with fail
  refine (HFR.out _ z g cap h2).mono ?_; rintro e w3 ⟨v', rfl, hf, hb3⟩
  have HF := hide hf
  obtain ⟨A, c, rfl, -, -⟩ := hf
  have HB3 := hide (HB2.out.trans (hb3.mono HB2.out.size))
  clear h1' hb1 hz hg h2 k2 hb3 HNW HWR HFR
  unfold frV at HF ⊢
  dsimp only at HF ⊢
  rw [HCS.out] at HF ⊢
  obtain ⟨n, hn⟩ : ∃ n, n = 16 := ⟨_, rfl⟩
  rw [← hn] at HF ⊢
  clear hn
  have HAT := hide HF.out.at
  have hbl : Below w3.heap.size w3 (w3.alloc (.cells #[.int .i64 2, .int .i64 8, .slice A n c, .int .i64 (row : Int), .int .i64 (col : Int)] 35)) := (Below.refl _ _).alloc (Nat.le_refl _) _
  have HY := hide (show Yb (w3.alloc (.cells #[.int .i64 2, .int .i64 8, .slice A n c, .int .i64 (row : Int), .int .i64 (col : Int)] 35)) w3.heap.size A n c row col from Blk.new _ _ _)
  have HAT4 := hide (HAT.out.below hbl)
  have HB4 := hide (HB3.out.trans (hbl.mono HB3.out.size))
  clear hbl
  obtain ⟨y, hy⟩ : ∃ q, w3.heap.size = q := ⟨_, rfl⟩
  obtain ⟨w4, hw4⟩ : ∃ V, w3.alloc (.cells #[.int .i64 2, .int .i64 8, .slice A n c, .int .i64 (row : Int), .int .i64 (col : Int)] 35) = V := ⟨_, rfl⟩
  rw [hw4] at HY HAT4 HB4
  rw [hy] at HY
  go_wp2_with fail
  (try rw [hw4])
  (try rw [hy])
  clear hw4 hy
  obtain ⟨wd, hwd⟩ : ∃ V, w4.drew = V := ⟨_, rfl⟩
  have HYd := hide (show Yb wd y A n c row col by rw [← hwd]; exact Blk.below HY.out (Below.refl _ _).drew)
  have HATd := hide (HAT4.out.below (Below.refl _ _).drew)
  rw [hwd] at HATd
  have HBd := hide (show Below W.heap.size W wd by rw [← hwd]; exact HB4.out.drew)
  clear HY HAT4 HB4 HAT HF HB3 HB2
  obtain ⟨pp, hpp⟩ : ∃ p, T.extract 0 8 = p := ⟨_, rfl⟩
  rw [hpp] at HRW
  have hT8i : (8 : Int) ≤ (T.size : Int) := by omega
  have hTT := HTT.out
  have hcat : ¬ 9223372036854775807 < one.size + 8 := by omega
  have HWT := hide (show WTabs wd from hT.w.below (HWB.out.trans (HBd.out.mono HWB.out.size)))
  refine wp_region_held_drew (S := (fun V => V.cell? ⟨y, 0, none⟩ = some (.int .i64 2) ∧ V.cell? ⟨y, 1, none⟩ = some (.int .i64 8) ∧ V.cell? ⟨y, 2, none⟩ = some (.slice A n c) ∧ V.cell? ⟨y, 3, none⟩ = some (.int .i64 (row : Int)) ∧ V.cell? ⟨y, 4, none⟩ = some (.int .i64 (col : Int)))) (by kernel_rfl) ?_ (fun hHeld => ?_)
  · exact (show Yb _ _ _ _ _ _ _ by rw [hwd]; exact HYd.out).c5
  rw [hwd] at hHeld ⊢
  clear hwd
  refine wpAnyH_at (i := 0) (v := ?vh1_0) (d := 23) rfl rfl (by kernel_rfl) (by kernel_rfl) (by kernel_rfl) (fun _ _ _ h => h) (Or.inl ⟨by rfl, fun w' hSw => ?hyh1_0⟩) (by assumption) ?resth1_0
  case hyh1_0 =>
    (try dsimp only at hSw)
    go_simp
    (try with_reducible rfl)
  (try simp only [Act.put, List.setIfInBounds_toArray, List.set_cons_zero, List.set_cons_succ])
  refine wpAnyH_at (i := 1) (v := ?vh2_1) (d := 24) rfl rfl (by kernel_rfl) (by kernel_rfl) (by kernel_rfl) (fun _ _ _ h => h) (Or.inl ⟨by rfl, fun w' hSw => ?hyh2_1⟩) (by assumption) ?resth2_1
  case hyh2_1 =>
    (try dsimp only at hSw)
    go_simp
    (try with_reducible rfl)
  (try simp only [Act.put, List.setIfInBounds_toArray, List.set_cons_zero, List.set_cons_succ])
  refine wpAnyH_at (i := 2) (v := ?vh3_2) (d := 25) rfl rfl (by kernel_rfl) (by kernel_rfl) (by kernel_rfl) (fun _ _ _ h => h) (Or.inl ⟨by rfl, fun w' hSw => ?hyh3_2⟩) (by assumption) ?resth3_2
  case hyh3_2 =>
    (try dsimp only at hSw)
    go_simp
    (try with_reducible rfl)
  (try simp only [Act.put, List.setIfInBounds_toArray, List.set_cons_zero, List.set_cons_succ])
  refine wpAnyH_at (i := 3) (v := ?vh4_3) (d := 26) rfl rfl (by kernel_rfl) (by kernel_rfl) (by kernel_rfl) (fun _ _ _ h => h) (Or.inl ⟨by rfl, fun w' hSw => ?hyh4_3⟩) (by assumption) ?resth4_3
  case hyh4_3 =>
    (try dsimp only at hSw)
    go_simp
    (try with_reducible rfl)
  (try simp only [Act.put, List.setIfInBounds_toArray, List.set_cons_zero, List.set_cons_succ])
  refine wpAnyH_at (i := 5) (v := ?vh5_5) (d := 28) rfl rfl (by kernel_rfl) (by kernel_rfl) (by kernel_rfl) (fun _ _ _ h => h) (Or.inl ⟨by rfl, fun w' hSw => ?hyh5_5⟩) (by assumption) ?resth5_5
  case hyh5_5 =>
    (try dsimp only at hSw)
    go_simp
    (try with_reducible rfl)
  (try simp only [Act.put, List.setIfInBounds_toArray, List.set_cons_zero, List.set_cons_succ])
  refine wpAnyH_at (i := 6) (v := ?vh6_6) (d := 29) rfl rfl (by kernel_rfl) (by kernel_rfl) (by kernel_rfl) (fun _ _ _ h => h) (Or.inl ⟨by rfl, fun w' hSw => ?hyh6_6⟩) (by assumption) ?resth6_6
  case hyh6_6 =>
    (try dsimp only at hSw)
    go_simp
    (try with_reducible rfl)
  (try simp only [Act.put, List.setIfInBounds_toArray, List.set_cons_zero, List.set_cons_succ])
  refine wpAnyH_at (i := 7) (v := ?vh7_7) (d := 30) rfl rfl (by kernel_rfl) (by kernel_rfl) (by kernel_rfl) (fun _ _ _ h => h) (Or.inl ⟨by rfl, fun w' hSw => ?hyh7_7⟩) (by assumption) ?resth7_7
  case hyh7_7 =>
    (try dsimp only at hSw)
    go_simp
    (try with_reducible rfl)
  (try simp only [Act.put, List.setIfInBounds_toArray, List.set_cons_zero, List.set_cons_succ])
  refine wpAnyH_at (i := 8) (v := ?vh8_8) (d := 31) rfl rfl (by kernel_rfl) (by kernel_rfl) (by kernel_rfl) (fun _ _ _ h => h) (Or.inl ⟨by rfl, fun w' hSw => ?hyh8_8⟩) (by assumption) ?resth8_8
  case hyh8_8 =>
    (try dsimp only at hSw)
    go_simp
    (try with_reducible rfl)
  (try simp only [Act.put, List.setIfInBounds_toArray, List.set_cons_zero, List.set_cons_succ])
  refine wpAnyH_ready (rs := [4,9]) (by kernel_rfl) (by simp) ?_
  refine AllReadyH.cons rfl (fun K' hK' => ?_) (AllReadyH.cons rfl (fun K' hK' => ?_) AllReadyH.nil)
  · go_simp
    refine (rows_any ⟨2, 8, cs, row, col⟩ _ _ HATd.out HWT.out).mono ?_; rintro e w5 ⟨v5, rfl, hown5, hb5⟩
    rw [HRW.out] at hown5
    have HS5 := hide (hown5.reads (by simp))
    obtain ⟨A5, c5', rfl⟩ := hown5.form9
    have HB5 := hide (HBd.out.trans (hb5.mono HBd.out.size))
    have HY5 := hide (Blk.below HYd.out hb5)
    clear hown5
    go_wp2_with fail
    refine hK'.out _ _ ?_ (fun hHeld => ?_)
    · exact Yb.c5 HY5.out
    clear hK' K'
    (try simp only [Act.put, List.getElem_toArray, List.getElem_cons_succ, List.getElem_cons_zero, List.setIfInBounds_toArray, List.set_cons_zero, List.set_cons_succ])
    have hbl : Below w5.heap.size w5 (w5.alloc (.cells #[.string pp, .string two] 9)) := (Below.refl _ _).alloc (Nat.le_refl _) _
    have HSN := hide (str2_new w5 pp two)
    have HB6 := hide (HB5.out.trans (hbl.mono HB5.out.size))
    have HY6 := hide (Blk.below HY5.out hbl)
    have HS6 := hide (HS5.out.below hbl)
    clear hbl hb5
    refine wpAnyH_ready (rs := [9]) (by kernel_rfl) (by simp) ?_
    refine AllReadyH.cons rfl (fun K' hK' => ?_) AllReadyH.nil
    go_simp
    refine hK'.out _ _ ?_ (fun hHeld => ?_)
    · exact Yb.c5 HY6.out
    clear hK' K'
    (try simp only [Act.put, List.getElem_toArray, List.getElem_cons_succ, List.getElem_cons_zero, List.setIfInBounds_toArray, List.set_cons_zero, List.set_cons_succ])
    refine wpAnyH_ready (rs := [10]) (by kernel_rfl) (by simp) ?_
    refine AllReadyH.cons rfl (fun K' hK' => ?_) AllReadyH.nil
    go_simp
    refine (strings_same [pp, two] _ _ _ HS6.out HSN.out).mono ?_; rintro e w7 ⟨rfl, hb7⟩
    have HB7 := hide (HB6.out.trans (hb7.mono HB6.out.size))
    have HY7 := hide (Blk.below HY6.out hb7)
    clear hb7
    go_wp2_with fail
    refine hK'.out _ _ ?_ (fun hHeld => ?_)
    · exact Yb.c5 HY7.out
    clear hK' K'
    (try simp only [Act.put, List.getElem_toArray, List.getElem_cons_succ, List.getElem_cons_zero, List.setIfInBounds_toArray, List.set_cons_zero, List.set_cons_succ])
    refine wpAnyH_at (i := 11) (v := ?vh9_11) (d := 34) rfl rfl (by kernel_rfl) (by kernel_rfl) (by kernel_rfl) (fun _ _ _ h => h) (Or.inl ⟨by rfl, fun w' hSw => ?hyh9_11⟩) (by assumption) ?resth9_11
    case hyh9_11 =>
      (try dsimp only at hSw)
      go_simp
      (try with_reducible rfl)
    (try simp only [Act.put, List.setIfInBounds_toArray, List.set_cons_zero, List.set_cons_succ])
    refine wpAnyH_at (i := 12) (v := ?vh10_12) (d := 35) rfl rfl (by kernel_rfl) (by kernel_rfl) (by kernel_rfl) (fun _ _ _ h => h) (Or.inl ⟨by rfl, fun w' hSw => ?hyh10_12⟩) (by assumption) ?resth10_12
    case hyh10_12 =>
      (try dsimp only at hSw)
      go_simp
      (try with_reducible rfl)
    (try simp only [Act.put, List.setIfInBounds_toArray, List.set_cons_zero, List.set_cons_succ])
    refine wpAnyH_at (i := 13) (v := ?vh11_13) (d := 36) rfl rfl (by kernel_rfl) (by kernel_rfl) (by kernel_rfl) (fun _ _ _ h => h) (Or.inl ⟨by rfl, fun w' hSw => ?hyh11_13⟩) (by assumption) ?resth11_13
    case hyh11_13 =>
      (try dsimp only at hSw)
      go_simp
      (try with_reducible rfl)
    (try simp only [Act.put, List.setIfInBounds_toArray, List.set_cons_zero, List.set_cons_succ])
    refine wpAnyH_at (i := 14) (v := ?vh12_14) (d := 37) rfl rfl (by kernel_rfl) (by kernel_rfl) (by kernel_rfl) (fun _ _ _ h => h) (Or.inl ⟨by rfl, fun w' hSw => ?hyh12_14⟩) (by assumption) ?resth12_14
    case hyh12_14 =>
      (try dsimp only at hSw)
      go_simp
      (try with_reducible rfl)
    (try simp only [Act.put, List.setIfInBounds_toArray, List.set_cons_zero, List.set_cons_succ])
    refine wpAnyH_at (i := 15) (v := ?vh13_15) (d := 38) rfl rfl (by kernel_rfl) (by kernel_rfl) (by kernel_rfl) (fun _ _ _ h => h) (Or.inl ⟨by rfl, fun w' hSw => ?hyh13_15⟩) (by assumption) ?resth13_15
    case hyh13_15 =>
      (try dsimp only at hSw)
      go_simp
      (try with_reducible rfl)
    (try simp only [Act.put, List.setIfInBounds_toArray, List.set_cons_zero, List.set_cons_succ])
    refine wpAnyH_at (i := 16) (v := ?vh14_16) (d := 39) rfl rfl (by kernel_rfl) (by kernel_rfl) (by kernel_rfl) (fun _ _ _ h => h) (Or.inl ⟨by rfl, fun w' hSw => ?hyh14_16⟩) (by assumption) ?resth14_16
    case hyh14_16 =>
      (try dsimp only at hSw)
      go_simp
      (try with_reducible rfl)
    (try simp only [Act.put, List.setIfInBounds_toArray, List.set_cons_zero, List.set_cons_succ])
    refine wpAnyH_at (i := 17) (v := ?vh15_17) (d := 40) rfl rfl (by kernel_rfl) (by kernel_rfl) (by kernel_rfl) (fun _ _ _ h => h) (Or.inl ⟨by rfl, fun w' hSw => ?hyh15_17⟩) (by assumption) ?resth15_17
    case hyh15_17 =>
      (try dsimp only at hSw)
      go_simp
      (try with_reducible rfl)
    (try simp only [Act.put, List.setIfInBounds_toArray, List.set_cons_zero, List.set_cons_succ])
    refine wpAnyH_at (i := 18) (v := ?vh16_18) (d := 41) rfl rfl (by kernel_rfl) (by kernel_rfl) (by kernel_rfl) (fun _ _ _ h => h) (Or.inl ⟨by rfl, fun w' hSw => ?hyh16_18⟩) (by assumption) ?resth16_18
    case hyh16_18 =>
      (try dsimp only at hSw)
      go_simp
      (try with_reducible rfl)
    (try simp only [Act.put, List.setIfInBounds_toArray, List.set_cons_zero, List.set_cons_succ])
    refine wpAnyH_at (i := 19) (v := ?vh17_19) (d := 42) rfl rfl (by kernel_rfl) (by kernel_rfl) (by kernel_rfl) (fun _ _ _ h => h) (Or.inl ⟨by rfl, fun w' hSw => ?hyh17_19⟩) (by assumption) ?resth17_19
    case hyh17_19 =>
      (try dsimp only at hSw)
      go_simp
      (try with_reducible rfl)
    (try simp only [Act.put, List.setIfInBounds_toArray, List.set_cons_zero, List.set_cons_succ])
    refine wpAnyH_at (i := 20) (v := ?vh18_20) (d := 43) rfl rfl (by kernel_rfl) (by kernel_rfl) (by kernel_rfl) (fun _ _ _ h => h) (Or.inl ⟨by rfl, fun w' hSw => ?hyh18_20⟩) (by assumption) ?resth18_20
    case hyh18_20 =>
      (try dsimp only at hSw)
      go_simp
      (try with_reducible rfl)
    (try simp only [Act.put, List.setIfInBounds_toArray, List.set_cons_zero, List.set_cons_succ])
    refine wpAnyH_at (i := 21) (v := ?vh19_21) (d := 44) rfl rfl (by kernel_rfl) (by kernel_rfl) (by kernel_rfl) (fun _ _ _ h => h) (Or.inl ⟨by rfl, fun w' hSw => ?hyh19_21⟩) (by assumption) ?resth19_21
    case hyh19_21 =>
      (try dsimp only at hSw)
      go_simp
      (try with_reducible rfl)
    (try simp only [Act.put, List.setIfInBounds_toArray, List.set_cons_zero, List.set_cons_succ])
    refine wpAnyH_at (i := 22) (v := ?vh20_22) (d := 45) rfl rfl (by kernel_rfl) (by kernel_rfl) (by kernel_rfl) (fun _ _ _ h => h) (Or.inl ⟨by rfl, fun w' hSw => ?hyh20_22⟩) (by assumption) ?resth20_22
    case hyh20_22 =>
      (try dsimp only at hSw)
      go_simp
      (try with_reducible rfl)
    (try simp only [Act.put, List.setIfInBounds_toArray, List.set_cons_zero, List.set_cons_succ])
    refine wpAnyH_at (i := 23) (v := ?vh21_23) (d := 46) rfl rfl (by kernel_rfl) (by kernel_rfl) (by kernel_rfl) (fun _ _ _ h => h) (Or.inl ⟨by rfl, fun w' hSw => ?hyh21_23⟩) (by assumption) ?resth21_23
    case hyh21_23 =>
      (try dsimp only at hSw)
      go_simp
      (try with_reducible rfl)
    (try simp only [Act.put, List.setIfInBounds_toArray, List.set_cons_zero, List.set_cons_succ])
    refine wpAnyH_at (i := 24) (v := ?vh22_24) (d := 10) rfl rfl (by kernel_rfl) (by kernel_rfl) (by kernel_rfl) (fun _ _ _ h => h) (Or.inl ⟨by rfl, fun w' hSw => ?hyh22_24⟩) (by assumption) ?resth22_24
    case hyh22_24 =>
      (try dsimp only at hSw)
      go_simp
      (try with_reducible rfl)
    (try simp only [Act.put, List.setIfInBounds_toArray, List.set_cons_zero, List.set_cons_succ])
    refine wpAnyH_done (by kernel_rfl) ?_ _
    go_wp2
    go_ret
    exact ⟨by first | rfl | simp, HB7.out⟩
  · have hbl : Below wd.heap.size wd (wd.alloc (.cells #[.string pp, .string two] 9)) := (Below.refl _ _).alloc (Nat.le_refl _) _
    have HSN := hide (str2_new wd pp two)
    have HBb := hide (HBd.out.trans (hbl.mono HBd.out.size))
    have HYb := hide (Blk.below HYd.out hbl)
    have HATb := hide (HATd.out.below hbl)
    have HWTb := hide (HWT.out.below hbl)
    clear hbl
    go_simp
    refine hK'.out _ _ ?_ (fun hHeld => ?_)
    · exact Yb.c5 HYb.out
    clear hK' K'
    (try simp only [Act.put, List.getElem_toArray, List.getElem_cons_succ, List.getElem_cons_zero, List.setIfInBounds_toArray, List.set_cons_zero, List.set_cons_succ])
    refine wpAnyH_ready (rs := [4]) (by kernel_rfl) (by simp) ?_
    refine AllReadyH.cons rfl (fun K' hK' => ?_) AllReadyH.nil
    go_simp
    refine (rows_any ⟨2, 8, cs, row, col⟩ _ _ HATb.out HWTb.out).mono ?_; rintro e w5 ⟨v5, rfl, hown5, hb5⟩
    rw [HRW.out] at hown5
    have HS5 := hide (hown5.reads (by simp))
    obtain ⟨A5, c5', rfl⟩ := hown5.form9
    have HB5 := hide (HBb.out.trans (hb5.mono HBb.out.size))
    have HY5 := hide (Blk.below HYb.out hb5)
    clear hown5
    go_wp2_with fail
    refine hK'.out _ _ ?_ (fun hHeld => ?_)
    · exact Yb.c5 HY5.out
    clear hK' K'
    (try simp only [Act.put, List.getElem_toArray, List.getElem_cons_succ, List.getElem_cons_zero, List.setIfInBounds_toArray, List.set_cons_zero, List.set_cons_succ])
    have HB6 := HB5
    have HY6 := HY5
    have HSM := hide (HSN.out.below hb5)
    clear hb5
    refine wpAnyH_ready (rs := [10]) (by kernel_rfl) (by simp) ?_
    refine AllReadyH.cons rfl (fun K' hK' => ?_) AllReadyH.nil
    go_simp
    refine (strings_same [pp, two] _ _ _ HS5.out HSM.out).mono ?_; rintro e w7 ⟨rfl, hb7⟩
    have HB7 := hide (HB6.out.trans (hb7.mono HB6.out.size))
    have HY7 := hide (Blk.below HY6.out hb7)
    clear hb7
    go_wp2_with fail
    refine hK'.out _ _ ?_ (fun hHeld => ?_)
    · exact Yb.c5 HY7.out
    clear hK' K'
    (try simp only [Act.put, List.getElem_toArray, List.getElem_cons_succ, List.getElem_cons_zero, List.setIfInBounds_toArray, List.set_cons_zero, List.set_cons_succ])
    refine wpAnyH_at (i := 11) (v := ?vh23_11) (d := 34) rfl rfl (by kernel_rfl) (by kernel_rfl) (by kernel_rfl) (fun _ _ _ h => h) (Or.inl ⟨by rfl, fun w' hSw => ?hyh23_11⟩) (by assumption) ?resth23_11
    case hyh23_11 =>
      (try dsimp only at hSw)
      go_simp
      (try with_reducible rfl)
    (try simp only [Act.put, List.setIfInBounds_toArray, List.set_cons_zero, List.set_cons_succ])
    refine wpAnyH_at (i := 12) (v := ?vh24_12) (d := 35) rfl rfl (by kernel_rfl) (by kernel_rfl) (by kernel_rfl) (fun _ _ _ h => h) (Or.inl ⟨by rfl, fun w' hSw => ?hyh24_12⟩) (by assumption) ?resth24_12
    case hyh24_12 =>
      (try dsimp only at hSw)
      go_simp
      (try with_reducible rfl)
    (try simp only [Act.put, List.setIfInBounds_toArray, List.set_cons_zero, List.set_cons_succ])
    refine wpAnyH_at (i := 13) (v := ?vh25_13) (d := 36) rfl rfl (by kernel_rfl) (by kernel_rfl) (by kernel_rfl) (fun _ _ _ h => h) (Or.inl ⟨by rfl, fun w' hSw => ?hyh25_13⟩) (by assumption) ?resth25_13
    case hyh25_13 =>
      (try dsimp only at hSw)
      go_simp
      (try with_reducible rfl)
    (try simp only [Act.put, List.setIfInBounds_toArray, List.set_cons_zero, List.set_cons_succ])
    refine wpAnyH_at (i := 14) (v := ?vh26_14) (d := 37) rfl rfl (by kernel_rfl) (by kernel_rfl) (by kernel_rfl) (fun _ _ _ h => h) (Or.inl ⟨by rfl, fun w' hSw => ?hyh26_14⟩) (by assumption) ?resth26_14
    case hyh26_14 =>
      (try dsimp only at hSw)
      go_simp
      (try with_reducible rfl)
    (try simp only [Act.put, List.setIfInBounds_toArray, List.set_cons_zero, List.set_cons_succ])
    refine wpAnyH_at (i := 15) (v := ?vh27_15) (d := 38) rfl rfl (by kernel_rfl) (by kernel_rfl) (by kernel_rfl) (fun _ _ _ h => h) (Or.inl ⟨by rfl, fun w' hSw => ?hyh27_15⟩) (by assumption) ?resth27_15
    case hyh27_15 =>
      (try dsimp only at hSw)
      go_simp
      (try with_reducible rfl)
    (try simp only [Act.put, List.setIfInBounds_toArray, List.set_cons_zero, List.set_cons_succ])
    refine wpAnyH_at (i := 16) (v := ?vh28_16) (d := 39) rfl rfl (by kernel_rfl) (by kernel_rfl) (by kernel_rfl) (fun _ _ _ h => h) (Or.inl ⟨by rfl, fun w' hSw => ?hyh28_16⟩) (by assumption) ?resth28_16
    case hyh28_16 =>
      (try dsimp only at hSw)
      go_simp
      (try with_reducible rfl)
    (try simp only [Act.put, List.setIfInBounds_toArray, List.set_cons_zero, List.set_cons_succ])
    refine wpAnyH_at (i := 17) (v := ?vh29_17) (d := 40) rfl rfl (by kernel_rfl) (by kernel_rfl) (by kernel_rfl) (fun _ _ _ h => h) (Or.inl ⟨by rfl, fun w' hSw => ?hyh29_17⟩) (by assumption) ?resth29_17
    case hyh29_17 =>
      (try dsimp only at hSw)
      go_simp
      (try with_reducible rfl)
    (try simp only [Act.put, List.setIfInBounds_toArray, List.set_cons_zero, List.set_cons_succ])
    refine wpAnyH_at (i := 18) (v := ?vh30_18) (d := 41) rfl rfl (by kernel_rfl) (by kernel_rfl) (by kernel_rfl) (fun _ _ _ h => h) (Or.inl ⟨by rfl, fun w' hSw => ?hyh30_18⟩) (by assumption) ?resth30_18
    case hyh30_18 =>
      (try dsimp only at hSw)
      go_simp
      (try with_reducible rfl)
    (try simp only [Act.put, List.setIfInBounds_toArray, List.set_cons_zero, List.set_cons_succ])
    refine wpAnyH_at (i := 19) (v := ?vh31_19) (d := 42) rfl rfl (by kernel_rfl) (by kernel_rfl) (by kernel_rfl) (fun _ _ _ h => h) (Or.inl ⟨by rfl, fun w' hSw => ?hyh31_19⟩) (by assumption) ?resth31_19
    case hyh31_19 =>
      (try dsimp only at hSw)
      go_simp
      (try with_reducible rfl)
    (try simp only [Act.put, List.setIfInBounds_toArray, List.set_cons_zero, List.set_cons_succ])
    refine wpAnyH_at (i := 20) (v := ?vh32_20) (d := 43) rfl rfl (by kernel_rfl) (by kernel_rfl) (by kernel_rfl) (fun _ _ _ h => h) (Or.inl ⟨by rfl, fun w' hSw => ?hyh32_20⟩) (by assumption) ?resth32_20
    case hyh32_20 =>
      (try dsimp only at hSw)
      go_simp
      (try with_reducible rfl)
    (try simp only [Act.put, List.setIfInBounds_toArray, List.set_cons_zero, List.set_cons_succ])
    refine wpAnyH_at (i := 21) (v := ?vh33_21) (d := 44) rfl rfl (by kernel_rfl) (by kernel_rfl) (by kernel_rfl) (fun _ _ _ h => h) (Or.inl ⟨by rfl, fun w' hSw => ?hyh33_21⟩) (by assumption) ?resth33_21
    case hyh33_21 =>
      (try dsimp only at hSw)
      go_simp
      (try with_reducible rfl)
    (try simp only [Act.put, List.setIfInBounds_toArray, List.set_cons_zero, List.set_cons_succ])
    refine wpAnyH_at (i := 22) (v := ?vh34_22) (d := 45) rfl rfl (by kernel_rfl) (by kernel_rfl) (by kernel_rfl) (fun _ _ _ h => h) (Or.inl ⟨by rfl, fun w' hSw => ?hyh34_22⟩) (by assumption) ?resth34_22
    case hyh34_22 =>
      (try dsimp only at hSw)
      go_simp
      (try with_reducible rfl)
    (try simp only [Act.put, List.setIfInBounds_toArray, List.set_cons_zero, List.set_cons_succ])
    refine wpAnyH_at (i := 23) (v := ?vh35_23) (d := 46) rfl rfl (by kernel_rfl) (by kernel_rfl) (by kernel_rfl) (fun _ _ _ h => h) (Or.inl ⟨by rfl, fun w' hSw => ?hyh35_23⟩) (by assumption) ?resth35_23
    case hyh35_23 =>
      (try dsimp only at hSw)
      go_simp
      (try with_reducible rfl)
    (try simp only [Act.put, List.setIfInBounds_toArray, List.set_cons_zero, List.set_cons_succ])
    refine wpAnyH_at (i := 24) (v := ?vh36_24) (d := 10) rfl rfl (by kernel_rfl) (by kernel_rfl) (by kernel_rfl) (fun _ _ _ h => h) (Or.inl ⟨by rfl, fun w' hSw => ?hyh36_24⟩) (by assumption) ?resth36_24
    case hyh36_24 =>
      (try dsimp only at hSw)
      go_simp
      (try with_reducible rfl)
    (try simp only [Act.put, List.setIfInBounds_toArray, List.set_cons_zero, List.set_cons_succ])
    refine wpAnyH_done (by kernel_rfl) ?_ _
    go_wp2
    go_ret
    exact ⟨by first | rfl | simp, HB7.out⟩
end Go.Proofs.YtmemdhmjhckmaaaDoor
namespace Go.Proofs.YtmemdhmjhckmaaaDoor
open Go.RowKit
set_option maxRecDepth 100000

theorem ex_1 : exOk ⟨#[49, 50, 51, 52, 53, 54, 55, 56]⟩ ⟨#[49, 50, 51, 52, 53, 54, 55, 56]⟩ ⟨#[32, 32, 32, 32, 32, 32, 32, 32]⟩ 0 7 := by unfold exOk; decide +kernel
theorem ex_2 : exOk ⟨#[49, 50, 51, 52, 53, 54, 55, 56, 57]⟩ ⟨#[49, 50, 51, 52, 53, 54, 55, 56]⟩ ⟨#[57, 32, 32, 32, 32, 32, 32, 32]⟩ 1 1 := by unfold exOk; decide +kernel
theorem ex_3 : exOk ⟨#[97, 98, 27, 91, 49, 59, 49, 72, 120]⟩ ⟨#[120, 98]⟩ ⟨#[32, 32, 32, 32, 32, 32, 32, 32]⟩ 0 1 := by unfold exOk; decide +kernel
theorem ex_4 : exOk ⟨#[49, 50, 51, 52, 53, 54, 55, 230, 151, 165]⟩ ⟨#[49, 50, 51, 52, 53, 54, 55, 32]⟩ ⟨#[230, 151, 165, 32, 32, 32, 32, 32, 32]⟩ 1 2 := by unfold exOk; decide +kernel
theorem ex_5 : exOk ⟨#[97, 10, 10, 10]⟩ ⟨#[32, 32, 32, 32, 32, 32, 32, 32]⟩ ⟨#[32, 32, 32, 32, 32, 32, 32, 32]⟩ 1 1 := by unfold exOk; decide +kernel
theorem bl_1 : (⟨#[57]⟩ : ByteArray) ++ (⟨#[32, 32, 32, 32, 32, 32, 32, 32]⟩ : ByteArray).extract 1 8 = ⟨#[57, 32, 32, 32, 32, 32, 32, 32]⟩ := by decide +kernel
theorem bl_2 : (⟨#[230, 151, 165]⟩ : ByteArray) ++ (⟨#[32, 32, 32, 32, 32, 32, 32, 32]⟩ : ByteArray).extract 2 8 = ⟨#[230, 151, 165, 32, 32, 32, 32, 32, 32]⟩ := by decide +kernel
set_option maxHeartbeats 4000000 in
theorem wrapped_any (w0 W : World) (hT : Tabs w0) (hb : Below w0.heap.size w0 W) : Calls Tryd.prog 8 #[] W fun e W' => e = .returned (.bool true) ∧ Below W.heap.size W W' := by
  have C1 := hide (show ∀ V, Below W.heap.size W V → Calls Tryd.prog 25 #[.string ⟨#[49, 50, 51, 52, 53, 54, 55, 56]⟩, .string ⟨#[49, 50, 51, 52, 53, 54, 55, 56]⟩, .string ⟨#[32, 32, 32, 32, 32, 32, 32, 32]⟩, .int .i64 0, .int .i64 7] V fun e W' => e = .returned (.bool true) ∧ Below V.heap.size V W' from
    fun V h => shows_any w0 V hT (hb.trans (h.mono hb.size)) _ _ _ 0 7 (by decide) (by decide) ex_1)
  have C2 := hide (show ∀ V, Below W.heap.size W V → Calls Tryd.prog 25 #[.string ⟨#[49, 50, 51, 52, 53, 54, 55, 56, 57]⟩, .string ⟨#[49, 50, 51, 52, 53, 54, 55, 56]⟩, .string ⟨#[57, 32, 32, 32, 32, 32, 32, 32]⟩, .int .i64 1, .int .i64 1] V fun e W' => e = .returned (.bool true) ∧ Below V.heap.size V W' from
    fun V h => shows_any w0 V hT (hb.trans (h.mono hb.size)) _ _ _ 1 1 (by decide) (by decide) ex_2)
  have C3 := hide (show ∀ V, Below W.heap.size W V → Calls Tryd.prog 25 #[.string ⟨#[97, 98, 27, 91, 49, 59, 49, 72, 120]⟩, .string ⟨#[120, 98]⟩, .string ⟨#[32, 32, 32, 32, 32, 32, 32, 32]⟩, .int .i64 0, .int .i64 1] V fun e W' => e = .returned (.bool true) ∧ Below V.heap.size V W' from
    fun V h => shows_any w0 V hT (hb.trans (h.mono hb.size)) _ _ _ 0 1 (by decide) (by decide) ex_3)
  have C4 := hide (show ∀ V, Below W.heap.size W V → Calls Tryd.prog 25 #[.string ⟨#[49, 50, 51, 52, 53, 54, 55, 230, 151, 165]⟩, .string ⟨#[49, 50, 51, 52, 53, 54, 55, 32]⟩, .string ⟨#[230, 151, 165, 32, 32, 32, 32, 32, 32]⟩, .int .i64 1, .int .i64 2] V fun e W' => e = .returned (.bool true) ∧ Below V.heap.size V W' from
    fun V h => shows_any w0 V hT (hb.trans (h.mono hb.size)) _ _ _ 1 2 (by decide) (by decide) ex_4)
  have C5 := hide (show ∀ V, Below W.heap.size W V → Calls Tryd.prog 25 #[.string ⟨#[97, 10, 10, 10]⟩, .string ⟨#[32, 32, 32, 32, 32, 32, 32, 32]⟩, .string ⟨#[32, 32, 32, 32, 32, 32, 32, 32]⟩, .int .i64 1, .int .i64 1] V fun e W' => e = .returned (.bool true) ∧ Below V.heap.size V W' from
    fun V h => shows_any w0 V hT (hb.trans (h.mono hb.size)) _ _ _ 1 1 (by decide) (by decide) ex_5)
  go_enter Tryd.func8, Tryd.ntmps8
  go_wp2_with fail
  refine (C1.out _ (Below.refl _ _)).mono ?_; rintro e w1 ⟨rfl, hb1⟩
  have H1 := hide hb1
  clear hb1
  go_wp2_with fail
  rw [bl_1]
  refine (C2.out _ H1.out).mono ?_; rintro e w2 ⟨rfl, hb2⟩
  have H2 := hide (H1.out.trans (hb2.mono H1.out.size))
  clear hb2
  go_wp2_with fail
  refine (C3.out _ H2.out).mono ?_; rintro e w3 ⟨rfl, hb3⟩
  have H3 := hide (H2.out.trans (hb3.mono H2.out.size))
  clear hb3
  go_wp2_with fail
  rw [bl_2]
  refine (C4.out _ H3.out).mono ?_; rintro e w4 ⟨rfl, hb4⟩
  have H4 := hide (H3.out.trans (hb4.mono H3.out.size))
  clear hb4
  go_wp2_with fail
  refine (C5.out _ H4.out).mono ?_; rintro e w5 ⟨rfl, hb5⟩
  have H5 := hide (H4.out.trans (hb5.mono H4.out.size))
  clear hb5
  go_wp2
  go_ret
  exact ⟨rfl, H5.out⟩
end Go.Proofs.YtmemdhmjhckmaaaDoor
namespace Go.Proofs.YtmemdhmjhckmaaaDoor
open Go.RowKit
set_option maxRecDepth 100000

def NoneAt (B : Nat) (W : World) (p : Value) : Prop := ∀ V, Below B W V → W.heap.size ≤ V.heap.size → Calls Tryd.prog 28 #[p] V fun e w' => e = .returned (.bool true) ∧ V = w'
theorem none_nil (W : World) : NoneAt W.heap.size W (.pointer none) := by
  intro V hV _
  clear hV
  go_enter Tryd.func28, Tryd.ntmps28
  go_wp2
  go_ret
  exact ⟨rfl, rfl⟩
def zeroT : List Value := [.bool false, .int .i64 0, .int .i64 0, .slice none 0 0, .int .i64 0, .int .i64 0, .int .i64 0, .string ⟨#[]⟩, .int .i64 0, .bool false, .bool false, .bool false, .bool false, .int .i64 0]
theorem none_zero {W : World} {y : Nat} (h : Blk W y 56 zeroT) : NoneAt W.heap.size W (.pointer (some ⟨y, 0, none⟩)) := by
  intro V hV _
  have c0 : V.cell? ⟨y, 0, none⟩ = some (.bool false) := (h.below hV).cell (i := 0) rfl
  clear hV h
  go_enter Tryd.func28, Tryd.ntmps28
  go_wp2
  go_ret
  exact ⟨rfl, rfl⟩
theorem nwrite_any (W : World) (p : Value) (h : NoneAt W.heap.size W p) (s : ByteArray) : Calls Tryd.prog 11 #[p, .string s] W fun e w' => e = .returned (.tuple #[]) ∧ W = w' := by
  have HN := hide (h W (Below.refl _ _) (Nat.le_refl _))
  clear h
  go_enter Tryd.func11, Tryd.ntmps11
  go_wp2_with fail
  refine HN.out.mono ?_; rintro e w1 ⟨rfl, rfl⟩
  go_wp2
  exact bodyPost_ret (results_none (by rfl) _ _ _) rfl ⟨rfl, rfl⟩
theorem nbells_any (W : World) (p : Value) (h : NoneAt W.heap.size W p) : Calls Tryd.prog 15 #[p] W fun e w' => e = .returned (.int .i64 0) ∧ W = w' := by
  have HN := hide (h W (Below.refl _ _) (Nat.le_refl _))
  clear h
  go_enter Tryd.func15, Tryd.ntmps15
  go_wp2_with fail
  refine HN.out.mono ?_; rintro e w1 ⟨rfl, rfl⟩
  go_wp2
  go_ret
  exact ⟨rfl, rfl⟩
theorem nresize_any (W : World) (p : Value) (h : NoneAt W.heap.size W p) (a b : Int) : Calls Tryd.prog 22 #[p, .int .i64 a, .int .i64 b] W fun e w' => e = .returned (.int .i64 1) ∧ W = w' := by
  have HN := hide (h W (Below.refl _ _) (Nat.le_refl _))
  clear h
  go_enter Tryd.func22, Tryd.ntmps22
  go_wp2_with fail
  refine HN.out.mono ?_; rintro e w1 ⟨rfl, rfl⟩
  go_wp2
  go_ret
  exact ⟨rfl, rfl⟩
theorem nframe_any (W : World) (p : Value) (h : NoneAt W.heap.size W p) : Calls Tryd.prog 14 #[p] W fun e w' => e = .returned (.agg #[.int .i64 0, .int .i64 0, .slice none 0 0, .int .i64 0, .int .i64 0]) ∧ Below W.heap.size W w' := by
  have hb : Below W.heap.size W (W.alloc (.cells #[.int .i64 0, .int .i64 0, .slice none 0 0, .int .i64 0, .int .i64 0] 35)) := (Below.refl _ _).alloc (Nat.le_refl _) _
  have HN := hide (h _ hb (by simp))
  have HB := hide hb
  have HZ := hide (Blk.new W 35 [.int .i64 0, .int .i64 0, .slice none 0 0, .int .i64 0, .int .i64 0])
  rw [show [Value.int .i64 0, .int .i64 0, .slice none 0 0, .int .i64 0, .int .i64 0].toArray = #[.int .i64 0, .int .i64 0, .slice none 0 0, .int .i64 0, .int .i64 0] from rfl] at HZ
  clear h hb
  go_enter Tryd.func14, Tryd.ntmps14
  go_wp2_with fail
  refine HN.out.mono ?_; rintro e w1 ⟨rfl, rfl⟩
  go_wp2
  refine bodyPost_ret (results_cell_row rfl _ _ W.heap.size 35 #[.int .i64 0, .int .i64 0, .slice none 0 0, .int .i64 0, .int .i64 0] (0, 0) _ rfl HZ.out Tryd.underlying35 rfl (by kernel_rfl)) rfl ⟨rfl, HB.out⟩
theorem tnew_no (a b : Int) (hm : mayB a b = false) (w0 W : World) (hT : Tabs w0) (hb : Below w0.heap.size w0 W) :
    Calls Tryd.prog 9 #[.int .i64 a, .int .i64 b] W fun e W' => e = .returned (.tuple #[.pointer none, .int .i64 2]) ∧ Below W.heap.size W W' := by
  have HNF := hide (new_frame a b W (hT.b.below' hb))
  have hne : newE a b = 2 ∧ newF a b = noF := by unfold newE newF; rw [hm]; exact ⟨rfl, rfl⟩
  rw [hne.1, hne.2] at HNF
  clear hne hb
  go_enter Tryd.func9, Tryd.ntmps9
  go_wp2_with fail
  refine HNF.out.mono ?_; rintro e w1 ⟨v', rfl, hf, hb1⟩
  obtain ⟨A, c, rfl⟩ := hf.nil_form
  have HB1 := hide (hb1.trans (((Below.refl w1.heap.size w1).alloc (Nat.le_refl _) (.cells #[.int .i64 0, .int .i64 0, .slice A 0 c, .int .i64 0, .int .i64 0] 35)).mono hb1.size))
  clear hf hb1
  go_wp2
  go_ret2
  exact ⟨rfl, HB1.out⟩
end Go.Proofs.YtmemdhmjhckmaaaDoor
namespace Go.Proofs.YtmemdhmjhckmaaaDoor
open Go.RowKit
set_option maxRecDepth 100000

theorem same_none (w : World) : Calls Tryd.prog 21 #[.agg #[.int .i64 0, .int .i64 0, .slice none 0 0, .int .i64 0, .int .i64 0], .agg #[.int .i64 0, .int .i64 0, .slice none 0 0, .int .i64 0, .int .i64 0]] w fun e w' => e = .returned (.bool true) ∧ Below w.heap.size w w' := by
  have := same_any noF noF _ _ w (FrAt.nil w) (FrAt.nil w)
  rw [show sameF noF noF = true by decide +kernel] at this
  exact this
def NoS (w W : World) (p : Value) : Prop := NoneAt W.heap.size W p ∧ Below w.heap.size w W
theorem NoneAt.later {W V : World} {p : Value} (h : NoneAt W.heap.size W p) (hb : Below W.heap.size W V) : NoneAt V.heap.size V p := fun U hU hs => h U (hb.trans (hU.mono hb.size)) (Nat.le_trans hb.size hs)
set_option maxHeartbeats 4000000 in
theorem lawNone (w : World) (hT : Tabs w) (s : ByteArray) (rows cols : Int) (hr : -9223372036854775808 ≤ rows ∧ rows ≤ 9223372036854775807) (hc : -9223372036854775808 ≤ cols ∧ cols ≤ 9223372036854775807) (hs : s.size ≤ maxLen) :
    Calls Tryd.prog 6 #[.string s, .int .i64 rows, .int .i64 cols] w fun e W' => e = .returned (.bool true) ∧ Below w.heap.size w W' := by
  unfold maxLen at hs
  have HWR := hide (fun (V : World) (h : Below w.heap.size w V) => wrapped_any w V hT h)
  by_cases hl : 300 < s.size
  · have q1 : (300 : Int) < (s.size : Int) := by omega
    go_enter Tryd.func6, Tryd.ntmps6
    go_wp2_with fail
    refine (HWR.out _ (Below.refl _ _)).mono ?_; rintro e w1 ⟨rfl, hb1⟩
    go_wp2
    go_ret
    exact ⟨rfl, hb1⟩
  · have q1 : ¬ (300 : Int) < (s.size : Int) := by omega
    obtain ⟨cc, hcc⟩ : ∃ c, min cols 7 = c := ⟨_, rfl⟩
    have hmay : mayB rows cc = false := by unfold mayB; simp; omega
    have HNO := hide (fun (V : World) (h : Below w.heap.size w V) => tnew_no rows cc hmay w V hT h)
    have HCC := hide hcc
    clear hmay hcc
    go_enter Tryd.func6, Tryd.ntmps6
    go_wp2_with fail
    go_loopw [7, 8] (fun pv jv wr => ∃ k : Nat, jv = .int .i64 (k : Int) ∧ k ≤ 2 ∧ Hid (NoS w wr pv)) (fun _ jv _ => 2 - (intOf jv).toNat)
    case atStart => exact ⟨0, rfl, by omega, hide ⟨none_nil w, Below.refl _ _⟩⟩
    case round =>
      obtain ⟨k, rfl, hk, HP⟩ := hrel
      by_cases hlt : k < 2
      · have hkk : (k : Int) < 2 := by omega
        go_wp2_with fail
        refine (nwrite_any _ _ HP.out.1 s).mono ?_; rintro e w1 ⟨rfl, rfl⟩
        go_wp2_with fail
        refine (nframe_any _ _ HP.out.1).mono ?_; rintro e w2 ⟨rfl, hb2⟩
        have HP2 := hide (show NoS w w2 _ from ⟨HP.out.1.later hb2, HP.out.2.trans (hb2.mono HP.out.2.size)⟩)
        clear hb2 HP
        go_wp2_with fail
        refine (same_none _).mono ?_; rintro e w3 ⟨rfl, hb3⟩
        have HP3 := hide (show NoS w w3 _ from ⟨HP2.out.1.later hb3, HP2.out.2.trans (hb3.mono HP2.out.2.size)⟩)
        clear hb3 HP2
        go_wp2_with fail
        refine (nbells_any _ _ HP3.out.1).mono ?_; rintro e w4 ⟨rfl, rfl⟩
        go_wp2_with fail
        refine (nresize_any _ _ HP3.out.1 rows cols).mono ?_; rintro e w5 ⟨rfl, rfl⟩
        have hbl : Below w3.heap.size w3 (w3.alloc (.cells zeroT.toArray 56)) := (Below.refl _ _).alloc (Nat.le_refl _) _
        have HP6 := hide (show NoS w (w3.alloc (.cells zeroT.toArray 56)) (.pointer (some ⟨w3.heap.size, 0, none⟩)) from ⟨none_zero (Blk.new _ _ _), HP3.out.2.trans (hbl.mono HP3.out.2.size)⟩)
        clear hbl HP3
        go_wp2
        exact ⟨⟨k + 1, by go_num, by omega, HP6⟩, by simp [intOf]; omega⟩
      · obtain rfl : k = 2 := by omega
        have hkk : ¬ ((2 : Nat) : Int) < 2 := by omega
        have HB := hide HP.out.2
        clear HP
        go_wp2_with fail
        (try rw [HCC.out])
        refine (HNO.out _ HB.out).mono ?_; rintro e w2 ⟨rfl, hb2⟩
        have HB2 := hide (HB.out.trans (hb2.mono HB.out.size))
        clear hb2
        go_wp2_with fail
        refine (HWR.out _ HB2.out).mono ?_; rintro e w3 ⟨rfl, hb3⟩
        have HB3 := hide (HB2.out.trans (hb3.mono HB2.out.size))
        clear hb3
        go_wp2
        go_ret
        exact ⟨rfl, HB3.out⟩
end Go.Proofs.YtmemdhmjhckmaaaDoor
