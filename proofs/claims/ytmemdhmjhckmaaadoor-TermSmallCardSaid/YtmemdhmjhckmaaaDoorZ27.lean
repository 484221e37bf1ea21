/- From the rows' listed variables to the tables that the contracts ask of the world. Opening a size. TermClear: behind a clearing the terminal is as new, but for the bells; in plain Lean. TermClear: the clearing, in plain Lean. TermClear: the walk. The acts of a terminal, where they lie; Great. Opening the acts of a terminal. -/
import Derived.Test.YtmemdhmjhckmaaaDoorZ1
import Derived.Test.YtmemdhmjhckmaaaDoorZ26
import Derived.Test.YtmemdhmjhckmaaaDoorCards
import Derived.Test.YtmemdhmjhckmaaaDoorTie
import Derived.Lib.LaidU8
import Derived.PinnedBridge
import Derived.LaidMore
import Derived.Lay
import Derived.SevenTiedAt
import Derived.Stop.Joined
import Derived.Test.YtmemdhmjhckmaaaDoorZ6
import Derived.Test.YtmemdhmjhckmaaaDoorZ16
namespace Go.Proofs.YtmemdhmjhckmaaaDoor
open Go.ChangeShapes Go.WideShapes Go.ChangeAt Go.RowKit Go.Lib
set_option maxRecDepth 100000

/-- The rows' list of variables. -/
def laidList : List (String × DataW Unit) := [("unicode/utf8.acceptRanges", Rows.laid_unicode_utf8_acceptRanges), ("limner/widths.hidden", Rows.laid_limner_widths_hidden), ("limner/widths.wide", Rows.laid_limner_widths_wide), ("limner/grids.blank", Rows.laid_limner_grids_blank), ("limner/term.blank", Rows.laid_limner_term_blank), ("unicode/utf8.first", Rows.laid_unicode_utf8_first)]

theorem cellsYI : Tryd.prog.cellsOf 3 = 1 := by kernel_rfl
theorem cellsYR : Tryd.prog.cellsOf 21 = 1 := by kernel_rfl
theorem cellsYB : Tryd.prog.cellsOf 4 = 1 := by kernel_rfl
theorem cellsYT : Tryd.prog.cellsOf 9 = 1 := by kernel_rfl
theorem cellsYS : Tryd.prog.cellsOf 38 = 4 := by kernel_rfl
theorem cellsYC : Tryd.prog.cellsOf 82 = 6 := by kernel_rfl
theorem cellsRun : Tryd.prog.cellsOf 88 = 2 := by kernel_rfl
theorem cellsI32 : Tryd.prog.cellsOf 21 = 1 := by kernel_rfl
/-- A listed array of runs. -/
theorem runs_of_reads {W : World} {name : String} {g t n : Nat} {l : List (Int × Int)} (hn : Tryd.prog.globalNamed name = some g) (hy : (Tryd.prog.globals[g]?).map (·.type) = some t) (ht : Tryd.prog.underlying t = some (.array n 88)) (hln : l.length = n)
    (h : VarReads Tryd.prog W name (.agg (l.map fun p => .agg [.lit (.int .i32 p.1), .lit (.int .i32 p.2)]))) : RunsAt g l W := by
  obtain ⟨g', t', cs, fuel, p, hg, hty, hvar, hd⟩ := h
  obtain rfl := Option.some.inj (hn.symm.trans hg)
  obtain rfl := Option.some.inj (hy.symm.trans hty)
  intro j hj
  obtain ⟨fuel', d, q, hdi, he⟩ := array_elem ht hd j (by omega)
  simp only [List.getElem?_map, List.getElem?_eq_getElem hj, Option.map_some, Option.some.injEq] at hdi
  subst hdi
  rw [cellsRun] at he
  have hcs := ints_of_struct (k := .i32) (zs := [l[j].1, l[j].2]) Tryd.underlying88 (fun i f hf => by
    match i, hf with
    | 0, hf => simp at hf; subst hf; exact ⟨Tryd.underlying21, rfl, cellsI32⟩
    | 1, hf => simp at hf; subst hf; exact ⟨Tryd.underlying21, rfl, cellsI32⟩
    | i + 2, hf => simp at hf) (by rw [cellsRun]; rfl) he
  have e0 := congrArg (·[0]?) hcs
  have e1 := congrArg (·[1]?) hcs
  simp only [List.getElem?_take, List.getElem?_drop] at e0 e1
  rw [World.var?_cell hg hvar (j * 2), World.var?_cell hg hvar (j * 2 + 1), ← Array.getElem?_toList, ← Array.getElem?_toList]
  simp only [List.getElem?_eq_getElem hj, Option.getD_some]
  constructor
  · simpa using e0
  · simpa using e1

theorem hidType : (Tryd.prog.globals[0]?).map (·.type) = some 89 := by kernel_rfl
theorem widType : (Tryd.prog.globals[1]?).map (·.type) = some 90 := by kernel_rfl
theorem hidName : Tryd.prog.globalNamed "limner/widths.hidden" = some 0 := by kernel_rfl
theorem widName : Tryd.prog.globalNamed "limner/widths.wide" = some 1 := by kernel_rfl
theorem blkTypeG : (Tryd.prog.globals[2]?).map (·.type) = some 82 := by kernel_rfl
theorem blkNameG : Tryd.prog.globalNamed "limner/grids.blank" = some 2 := by kernel_rfl
theorem blkTypeL : (Tryd.prog.globals[5]?).map (·.type) = some 82 := by kernel_rfl
theorem blkNameL : Tryd.prog.globalNamed "limner/term.blank" = some 5 := by kernel_rfl
/-- The blank, as it is listed. -/
theorem blank_reads {W : World} {name : String} {gn : Nat} (blkName : Tryd.prog.globalNamed name = some gn) (blkType : (Tryd.prog.globals[gn]?).map (·.type) = some 82) (h : VarReads Tryd.prog W name (.agg [.lit (.int .i32 32), .lit (.int .i64 1), .agg [.lit (.int .i64 0), .lit (.bool false), .lit (.bool false), .lit (.bool false)]])) : ∀ i u, (clCells blankC)[i]? = some u → W.cell? ⟨gn, i, none⟩ = some u := by
  obtain ⟨g', t', cs, fuel, p, hg, hty, hvar, hd⟩ := h
  obtain rfl := Option.some.inj (blkName.symm.trans hg)
  obtain rfl := Option.some.inj (blkType.symm.trans hty)
  obtain ⟨l⟩ := cs
  obtain ⟨xs, n, -, hx, hl, hlen, hi⟩ := DataW.trod_struct Tryd.underlying82 hd
  rw [cellsYC] at hl
  match l, hl with
  | [c0, c1, c2, c3, c4, c5], _ =>
    match xs, hlen with
    | [y0, y1, y2], _ =>
      simp only [Prod.mk.injEq, List.map_cons, List.map_nil, DataW.agg.injEq, List.cons.injEq, and_true] at hx
      obtain ⟨⟨d0, d1, d2⟩, -⟩ := hx
      have h0 := hi 0 _ rfl
      have h1 := hi 1 _ rfl
      have h2 := hi 2 _ rfl
      simp [cellsYR, cellsYI, cellsYS] at h0 h1 h2
      obtain ⟨a, e0, f0, _⟩ := DataW.trod_int Tryd.underlying21 h0
      obtain ⟨b, e1, f1, _⟩ := DataW.trod_int Tryd.underlying3 h1
      obtain ⟨zs, n, -, hz, -, hzl, hj⟩ := DataW.trod_struct Tryd.underlying38 h2
      match zs, hzl with
      | [z0, z1, z2, z3], _ =>
        have j0 := hj 0 _ rfl
        have j1 := hj 1 _ rfl
        have j2 := hj 2 _ rfl
        have j3 := hj 3 _ rfl
        simp [cellsYI, cellsYB] at j0 j1 j2 j3
        obtain ⟨a0, k0, g0, _⟩ := DataW.trod_int Tryd.underlying3 j0
        obtain ⟨a1, k1, g1⟩ := DataW.trod_bool Tryd.underlying4 j1
        obtain ⟨a2, k2, g2⟩ := DataW.trod_bool Tryd.underlying4 j2
        obtain ⟨a3, k3, g3⟩ := DataW.trod_bool Tryd.underlying4 j3
        subst f0 f1 hz g0 g1 g2 g3
        simp at d0 d1 d2 e0 e1 k0 k1 k2 k3
        obtain ⟨rfl, rfl, rfl, rfl⟩ := d2
        subst d0 d1 e0 e1 k0 k1 k2 k3
        have hc := fun k => World.var?_cell hg hvar k
        intro i u hu
        have hi6 : i < 6 := by have := (List.getElem?_eq_some_iff.1 hu).1; simpa [clCells] using this
        rw [hc]
        have : i = 0 ∨ i = 1 ∨ i = 2 ∨ i = 3 ∨ i = 4 ∨ i = 5 := by omega
        rcases this with rfl | rfl | rfl | rfl | rfl | rfl <;> exact hu
theorem u8Extra : Go.Proofs.U8Extra Tryd.prog Tryd.lays260_ren := ⟨by kernel_rfl, by kernel_rfl, by kernel_rfl, by kernel_rfl, by kernel_rfl, by kernel_rfl, by kernel_rfl⟩
theorem acceptEq : (Rows.laid_unicode_utf8_acceptRanges : DataW Unit) = acceptData := by kernel_rfl
/-- What the rows' list gives. -/
theorem tabs_of_laid {W : World} (h : laidMetH Tryd.prog laidList W) : Tabs W := by
  rw [MakeChecks.laidMetH_plain _ _ _ (by kernel_rfl)] at h
  have r1 := laidMet.reads h (n := "limner/widths.hidden") (d := Rows.laid_limner_widths_hidden) (by simp [laidList])
  have r2 := laidMet.reads h (n := "limner/widths.wide") (d := Rows.laid_limner_widths_wide) (by simp [laidList])
  have r3 := laidMet.reads h (n := "limner/grids.blank") (d := Rows.laid_limner_grids_blank) (by simp [laidList])
  have r5 := laidMet.reads h (n := "limner/term.blank") (d := Rows.laid_limner_term_blank) (by simp [laidList])
  have r6 := laidMet.reads h (n := "unicode/utf8.first") (d := Rows.laid_unicode_utf8_first) (by simp [laidList])
  have r7 := laidMet.reads h (n := "unicode/utf8.acceptRanges") (d := Rows.laid_unicode_utf8_acceptRanges) (by simp [laidList])
  rw [show (Rows.laid_unicode_utf8_first : DataW Unit) = firstData from Pinned.utf8First_eq] at r6
  rw [acceptEq] at r7
  have hb := blank_reads blkNameG blkTypeG r3
  have hl := blank_reads blkNameL blkTypeL r5
  have hw : WTabs W := ⟨runs_of_reads (l := hid) hidName hidType Tryd.underlying89 rfl r1, runs_of_reads (l := wid) widName widType Tryd.underlying90 rfl r2⟩
  have hu : UTabs W := Go.Proofs.utf8Tabs_of_reads Tryd.lays260 u8Extra r6 r7
  exact ⟨⟨hl 0 _ rfl, hl 1 _ rfl, hl 2 _ rfl, hl 3 _ rfl, hl 4 _ rfl, hl 5 _ rfl⟩, ⟨hb 0 _ rfl, hb 1 _ rfl, hb 2 _ rfl, hb 3 _ rfl, hb 4 _ rfl, hb 5 _ rfl⟩, hw, hu⟩
end Go.Proofs.YtmemdhmjhckmaaaDoor
namespace Go.Proofs.YtmemdhmjhckmaaaDoor
open Go.ChangeShapes Go.WideShapes Go.ChangeAt Go.RowKit Go.Lib
set_option maxRecDepth 100000

theorem cellsB2M : Tryd.prog.cellsOf 22 = 2 := by kernel_rfl
theorem cellsByteM : Tryd.prog.cellsOf 5 = 1 := by kernel_rfl
section
variable {H : Type} {enc : TypeId × Value → H}
theorem open_b2 {w : World} {v : Value} {d : DataW H} {p : List MemPlace} {b0 : Nat} (hv : Value.okWide Tryd.prog w .any b0 22 v) (h : DataW.Trod enc Tryd.prog w 0 (fun _ => true) true 22 v d p) :
    ∃ x y : Int, v = .agg #[.int .u8 x, .int .u8 y] ∧ (0 ≤ x ∧ x ≤ 255) ∧ (0 ≤ y ∧ y ≤ 255) := by
  obtain ⟨cs, rfl, hsz⟩ := okWide_array Tryd.underlying22 hv
  rw [cellsB2M] at hsz
  obtain ⟨l⟩ := cs
  match l, hsz with
  | [c0, c1], _ =>
    obtain ⟨fuel, hf⟩ := h
    obtain ⟨xs, n, _, _, _, hlen, hi⟩ := DataW.trod_array Tryd.underlying22 hf
    match xs, hlen with
    | [y0, y1], _ =>
      have h0 := hi 0 (by omega)
      have h1 := hi 1 (by omega)
      simp [Value.cells, cellsByteM] at h0 h1
      obtain ⟨x, e0, _, m0⟩ := DataW.trod_int Tryd.underlying5 h0
      obtain ⟨y, e1, _, m1⟩ := DataW.trod_int Tryd.underlying5 h1
      simp only [List.cons.injEq, and_true] at e0 e1
      exact ⟨x, y, by rw [e0, e1], wfB m0, wfB m1⟩
end
end Go.Proofs.YtmemdhmjhckmaaaDoor
namespace Go.Proofs.YtmemdhmjhckmaaaDoor
open Go.RowKit
set_option maxRecDepth 100000

def bell (t : Tm) (b : Nat) : Tm := { t with bells := b }
theorem bell_act (t : Tm) (b : Nat) (a : Ac) : ∃ c, actM (bell t b) a = bell (actM t a) c := by
  have hf : ∀ (t : Tm) b, feedM (bell t b) = bell (feedM t) b := fun t b => by
    unfold feedM bell
    dsimp only
    split <;> rfl
  have hc : ∀ (t : Tm) b (n : Int) (f q : Nat), clearM (bell t b) n f q = bell (clearM t n f q) b := fun t b n f q => by
    unfold clearM bell
    dsimp only
    (repeat' split) <;> rfl
  unfold actM
  split
  · refine ⟨b, ?_⟩
    unfold showM
    rw [show wrapsB (bell t b) (widN (shown a.r)) = wrapsB t (widN (shown a.r)) from rfl]
    split
    · have : wrapM (bell t b) = bell (wrapM t) b := hf { t with col := 0, waits := false } b
      rw [this]; rfl
    · rfl
  split
  · unfold ctlM
    split
    · exact ⟨b + 1, rfl⟩
    split
    · exact ⟨b, rfl⟩
    split
    · exact ⟨b, rfl⟩
    split
    · refine ⟨b, ?_⟩
      show ({ feedM (bell t b) with waits := false } : Tm) = _
      rw [hf]; rfl
    · exact ⟨b, rfl⟩
  split
  · refine ⟨b, ?_⟩
    unfold seqM
    dsimp only
    split
    · rfl
    split
    · rfl
    split
    · rfl
    split
    · rfl
    split
    · rfl
    split
    · show ({ clearM (bell t b) _ _ _ with waits := false } : Tm) = _
      rw [hc]; rfl
    split
    · show ({ clearM (bell t b) _ _ _ with waits := false } : Tm) = _
      rw [hc]; rfl
    split
    · rfl
    · rfl
  · exact ⟨b, rfl⟩
theorem bell_acts : ∀ (L : List Ac) (t : Tm) (b : Nat), ∃ c, L.foldl actM (bell t b) = bell (L.foldl actM t) c
  | [], t, b => ⟨b, rfl⟩
  | a :: L, t, b => by
    obtain ⟨c, hc⟩ := bell_act t b a
    obtain ⟨d, hd⟩ := bell_acts L (actM t a) c
    exact ⟨d, by rw [List.foldl_cons, hc, hd]; rfl⟩
theorem bell_step (t : Tm) (b : Nat) (x : Int) : ∃ c, stepM (bell t b) x = bell (stepM t x) c := by
  obtain ⟨c, hc⟩ := bell_acts (feed t.p x).2 { t with p := (feed t.p x).1 } b
  exact ⟨c, hc⟩
theorem bell_write (t : Tm) (b : Nat) (s : ByteArray) : ∀ k, ∃ c, writeTo (bell t b) s k = bell (writeTo t s k) c
  | 0 => ⟨b, rfl⟩
  | k + 1 => by
    obtain ⟨c, hc⟩ := bell_write t b s k
    obtain ⟨d, hd⟩ := bell_step (writeTo t s k) c ((s.get! k).toNat : Int)
    exact ⟨d, by rw [writeTo, hc, hd]; rfl⟩
theorem get_left (a b : ByteArray) (k : Nat) (h : k < a.size) : (a ++ b).get! k = a.get! k := by
  rw [get_at _ _ (by rw [ByteArray.size_append]; omega), get_at _ _ h, ByteArray.getElem_append_left]
theorem get_right (a b : ByteArray) (k : Nat) (h : k < b.size) : (a ++ b).get! (a.size + k) = b.get! k := by
  rw [get_at _ _ (by rw [ByteArray.size_append]; omega), get_at _ _ h, ByteArray.getElem_append_right (by omega)]
  congr 1
  omega
theorem write_left (t : Tm) (a b : ByteArray) : ∀ k, k ≤ a.size → writeTo t (a ++ b) k = writeTo t a k
  | 0, _ => rfl
  | k + 1, h => by rw [writeTo, writeTo, write_left t a b k (by omega), get_left a b k (by omega)]
theorem write_right (t : Tm) (a b : ByteArray) : ∀ k, k ≤ b.size → writeTo t (a ++ b) (a.size + k) = writeTo (writeM t a) b k
  | 0, _ => write_left t a b a.size (Nat.le_refl _)
  | k + 1, h => by
    rw [show a.size + (k + 1) = (a.size + k) + 1 by omega, writeTo, writeTo, write_right t a b k (by omega), get_right a b k (by omega)]
theorem write_app (t : Tm) (a b : ByteArray) : writeM t (a ++ b) = writeM (writeM t a) b := by
  unfold writeM
  rw [ByteArray.size_append]
  exact write_right t a b b.size (Nat.le_refl _)
theorem need_leT (b : Nat) : needN b ≤ 4 := by unfold needN; (repeat' split) <;> omega
theorem join_sizeT (t u : ByteArray) : (t ++ u).size = t.size + u.size := ByteArray.size_append
theorem last_can {t : ByteArray} (n : Nat) (h : t.size = n) : (t ++ strOfNums [24]).get! n = 24 := by
  have h1 : (strOfNums [24]).size = 1 := by decide +kernel
  have := get_right t (strOfNums [24]) 0 (by rw [h1]; decide)
  rw [Nat.add_zero, h] at this
  rw [this]
  decide +kernel
theorem can_no (t : ByteArray) (h0 : 0 < t.size) (h3 : t.size ≤ 3) : wholeB (t ++ strOfNums [24]) = false ∧ begB (t ++ strOfNums [24]) = false := by
  have h1 : (strOfNums [24]).size = 1 := by decide +kernel
  have hz : (t ++ strOfNums [24]).size = t.size + 1 := by rw [join_sizeT, h1]
  have h24 : (24 : UInt8).toNat = 24 := rfl
  have hlo : ∀ b, 128 ≤ loN b := fun b => by unfold loN; (repeat' split) <;> omega
  constructor
  · cases hw : wholeB (t ++ strOfNums [24]) with
    | false => rfl
    | true =>
      exfalso
      obtain ⟨-, g1, g2, g3⟩ := (whole_iff _ (by omega)).1 hw
      rcases (show t.size = 1 ∨ t.size = 2 ∨ t.size = 3 by omega) with e | e | e
      · have := g1.1
        rw [last_can 1 e, h24] at this
        have := hlo ((t ++ strOfNums [24]).get! 0).toNat
        omega
      · have := (g2 (by omega)).1
        rw [last_can 2 e, h24] at this
        omega
      · have := (g3 (by omega)).1
        rw [last_can 3 e, h24] at this
        omega
  · unfold begB
    refine decide_eq_false (fun hh => ?_)
    rw [hz] at hh
    obtain ⟨-, g1, g2, g3⟩ := hh
    rcases (show t.size = 1 ∨ t.size = 2 ∨ t.size = 3 by omega) with e | e | e
    · have := (g2 (by omega)).1
      rw [last_can 1 e, h24] at this
      have := hlo ((t ++ strOfNums [24]).get! 0).toNat
      omega
    · have := (g3 (by omega)).1
      rw [last_can 2 e, h24] at this
      omega
    · have := need_leT ((t ++ strOfNums [24]).get! 0).toNat
      omega
/-- Behind CAN a parser stands at the beginning; the terminal is as it was. -/
theorem can_step {t : Tm} {K : Nat} (hp : StOk K t.p) : stepM t 24 = { t with p := (0, ⟨#[]⟩) } := by
  have hinv : ∀ u : Tm, actM u inv = u := fun u => rfl
  have h24 : ∀ u : Tm, actM u ⟨2, 24, [], 0⟩ = u := fun u => rfl
  have hg : ground 24 = ((0, ⟨#[]⟩), [⟨2, 24, [], 0⟩]) := by unfold ground; rw [if_neg (by decide), if_pos (by decide)]
  have key : ∀ L : List Ac, (∀ a ∈ L, ∀ u : Tm, actM u a = u) → ∀ u : Tm, L.foldl actM u = u := fun L => by
    induction L with
    | nil => exact fun _ u => rfl
    | cons a L ih => exact fun h u => by rw [List.foldl_cons, h a (by simp)]; exact ih (fun b hb => h b (by simp [hb])) u
  have hfeed : (feed t.p 24).1 = (0, ⟨#[]⟩) ∧ ∀ a ∈ (feed t.p 24).2, ∀ u : Tm, actM u a = u := by
    rcases hp with ⟨h0, -⟩ | ⟨h1, hs0, hs3, hs⟩ | ⟨h2, -⟩ | ⟨h3, -⟩
    · unfold feed
      rw [if_pos h0, hg]
      exact ⟨rfl, fun a ha u => by simp at ha; rw [ha]; exact h24 u⟩
    · have e : feed t.p 24 = inRune t.p.2 24 := by unfold feed; rw [if_neg (by omega), if_pos h1]
      rw [e]
      have hone : ((strOfNums [24]).get! 0).toNat = 24 := by decide +kernel
      have hsz1 : (strOfNums [24]).size = 1 := by decide +kernel
      have hne : wholeB (t.p.2 ++ strOfNums [24]) = false ∧ begB (t.p.2 ++ strOfNums [24]) = false := can_no t.p.2 hs0 hs3
      unfold inRune
      rw [hne.1, hne.2, hg]
      exact ⟨rfl, fun a ha u => by
        simp at ha
        rcases ha with rfl | rfl
        · exact hinv u
        · exact h24 u⟩
    · have e : feed t.p 24 = inSeq t.p.1 t.p.2 24 := by unfold feed; rw [if_neg (by omega), if_neg (by omega)]
      rw [e]
      unfold inSeq
      rw [if_neg (by decide), if_pos (by decide)]
      exact ⟨rfl, fun a ha u => by simp at ha; rw [ha]; exact hinv u⟩
    · have e : feed t.p 24 = inSeq t.p.1 t.p.2 24 := by unfold feed; rw [if_neg (by omega), if_neg (by omega)]
      rw [e]
      unfold inSeq
      rw [if_neg (by decide), if_pos (by decide)]
      exact ⟨rfl, fun a ha u => by simp at ha; rw [ha]; exact hinv u⟩
  unfold stepM
  rw [key _ hfeed.2, hfeed.1]
end Go.Proofs.YtmemdhmjhckmaaaDoor
namespace Go.Proofs.YtmemdhmjhckmaaaDoor
open Go.RowKit
set_option maxRecDepth 100000

def S0 (t : Tm) : Prop := t.sty.r = 0 ∧ t.sty.w = 0
theorem look_rw (s : Cl) (n : Int) : (lookS s n).r = s.r ∧ (lookS s n).w = s.w := by
  unfold lookS
  (repeat' split) <;> exact ⟨rfl, rfl⟩
theorem S0.act {t : Tm} (h : S0 t) (a : Ac) : S0 (actM t a) := by
  have hf : ∀ t : Tm, (feedM t).sty = t.sty := fun t => by unfold feedM; split <;> rfl
  have hc : ∀ (t : Tm) (n : Int) (f q : Nat), (clearM t n f q).sty = t.sty := fun t n f q => by
    unfold clearM; dsimp only; (repeat' split) <;> rfl
  have hl : ∀ (l : List Int) (s : Cl), (l.foldl lookS s).r = s.r ∧ (l.foldl lookS s).w = s.w := fun l => by
    induction l with
    | nil => exact fun s => ⟨rfl, rfl⟩
    | cons x l ih => exact fun s => ⟨(ih _).1.trans (look_rw s x).1, (ih _).2.trans (look_rw s x).2⟩
  have key : (actM t a).sty = t.sty ∨ ((actM t a).sty.r = t.sty.r ∧ (actM t a).sty.w = t.sty.w) := by
    unfold actM
    split
    · left
      unfold showM
      have : ∀ (t : Tm) r m, (layM t r m).sty = t.sty := fun _ _ _ => rfl
      rw [this]
      split
      · exact hf _
      · rfl
    split
    · left
      unfold ctlM
      (repeat' split) <;> (try rfl)
      exact hf _
    split
    · unfold seqM
      dsimp only
      (repeat' split) <;> (try exact .inl rfl)
      · exact .inl (hc _ _ _ _)
      · exact .inl (hc _ _ _ _)
      · exact .inr (hl _ _)
    · exact .inl rfl
  unfold S0
  rcases key with h1 | ⟨h1, h2⟩
  · rw [h1]; exact h
  · rw [h1, h2]; exact h
theorem S0.write {t : Tm} (h : S0 t) (s : ByteArray) : ∀ k, S0 (writeTo t s k)
  | 0 => h
  | k + 1 => by
    have key : ∀ (L : List Ac) (t : Tm), S0 t → S0 (L.foldl actM t) := fun L => by
      induction L with
      | nil => exact fun t h => h
      | cons a L ih => exact fun t h => ih _ (h.act a)
    exact key _ _ (show S0 { writeTo t s k with p := _ } from S0.write h s k)
theorem wipe_at {L : List Cl} {i : Nat} (h : i < L.length) : (wipeL L i)[i]? = some blankC := by
  have hl := wipe_len L i
  unfold wipeL at hl ⊢
  rw [List.getElem?_set_self]
  rw [List.length_set] at hl
  omega
theorem wipe_keep {L : List Cl} {i j : Nat} (h : L[j]? = some blankC) : (wipeL L i)[j]? = some blankC := by
  have hj := (List.getElem?_eq_some_iff.1 h).1
  have hx := List.getElem?_eq_getElem (l := wipeL L i) (i := j) (by rw [wipe_len]; exact hj)
  rcases wipe_old L i j _ hx with h2 | h2
  · rw [hx, ← h2, h]
  · rw [hx, h2]
theorem wipe_all (L : List Cl) : wipeN L 0 L.length = List.replicate L.length blankC := by
  have key : ∀ k, k ≤ L.length → ∀ j, j < k → (wipeN L 0 k)[j]? = some blankC := fun k => by
    induction k with
    | zero => exact fun _ j hj => absurd hj (by omega)
    | succ k ih =>
      intro hk j hj
      rw [wipeN, Nat.zero_add]
      by_cases e : j = k
      · subst e; exact wipe_at (by rw [wipeN_len]; omega)
      · exact wipe_keep (ih (by omega) j (by omega))
  apply List.ext_getElem?
  intro j
  by_cases h : j < L.length
  · rw [key _ (Nat.le_refl _) j h, List.getElem?_replicate, if_pos h]
  · rw [List.getElem?_eq_none (by rw [wipeN_len]; omega), List.getElem?_eq_none (by simp; omega)]
theorem step_is {t : Tm} {x : Int} {q : Nat × ByteArray} {L : List Ac} (h : feed t.p x = (q, L)) : stepM t x = L.foldl actM { t with p := q } := by
  unfold stepM; rw [h]
theorem step0 {R C : Nat} {cs : List Cl} {row col : Nat} {p q : Nat × ByteArray} {s : Cl} {wt : Bool} {bl : Nat} {x : Int} (h : feed p x = (q, [])) : stepM ⟨R, C, cs, row, col, p, s, wt, bl⟩ x = ⟨R, C, cs, row, col, q, s, wt, bl⟩ := step_is (t := ⟨R, C, cs, row, col, p, s, wt, bl⟩) h
theorem step1 {R C : Nat} {cs : List Cl} {row col : Nat} {p q : Nat × ByteArray} {s : Cl} {wt : Bool} {bl : Nat} {x : Int} {a : Ac} (h : feed p x = (q, [a])) : stepM ⟨R, C, cs, row, col, p, s, wt, bl⟩ x = actM ⟨R, C, cs, row, col, q, s, wt, bl⟩ a := step_is (t := ⟨R, C, cs, row, col, p, s, wt, bl⟩) h
def clsB : ByteArray := ⟨#[24, 27, 91, 72, 27, 91, 50, 74, 27, 91, 109]⟩
theorem fd1 : feed (0, ⟨#[]⟩) 27 = ((2, ⟨#[]⟩), []) := by decide +kernel
theorem fd2 : feed (2, ⟨#[]⟩) 91 = ((3, ⟨#[]⟩), []) := by decide +kernel
theorem fd3 : feed (3, ⟨#[]⟩) 72 = ((0, ⟨#[]⟩), [⟨3, 0, [], 72⟩]) := by decide +kernel
theorem fd4 : feed (3, ⟨#[]⟩) 50 = ((3, ⟨#[50]⟩), []) := by decide +kernel
theorem fd5 : feed (3, ⟨#[50]⟩) 74 = ((0, ⟨#[]⟩), [⟨3, 0, [2], 74⟩]) := by decide +kernel
theorem fd6 : feed (3, ⟨#[]⟩) 109 = ((0, ⟨#[]⟩), [⟨3, 0, [], 109⟩]) := by decide +kernel
theorem clip_zero {m : Nat} (h : 1 ≤ m) : clipN (0 - 1) (m : Int) = 0 := by unfold clipN; omega
theorem clear_new {t : Tm} (hI : Inv t) {K : Nat} (hp : StOk K t.p) (hs : S0 t) : writeM t clsB = bell (newM t.rows t.cols) t.bells := by
  have e : writeM t clsB = stepM (stepM (stepM (stepM (stepM (stepM (stepM (stepM (stepM (stepM (stepM t 24) 27) 91) 72) 27) 91) 50) 74) 27) 91) 109 := rfl
  have hR := hI.hR
  have hC := hI.hC
  have hL := hI.hL
  obtain ⟨R, C, cs, row, col, p, ⟨sr, sw, fg, bo, un, iv⟩, wt, bl⟩ := t
  obtain ⟨h1, h2⟩ := hs
  dsimp only at h1 h2 hR hC hL hp
  subst h1 h2
  rw [e, can_step hp]
  dsimp only
  rw [step0 fd1]
  rw [step0 fd2]
  rw [step1 fd3]
  have a1 : actM ⟨R, C, cs, row, col, (0, ⟨#[]⟩), ⟨0, 0, fg, bo, un, iv⟩, wt, bl⟩ ⟨3, 0, [], 72⟩ = ⟨R, C, cs, 0, 0, (0, ⟨#[]⟩), ⟨0, 0, fg, bo, un, iv⟩, false, bl⟩ := by
    show (⟨R, C, cs, clipN (0 - 1) R, clipN (0 - 1) C, (0, ⟨#[]⟩), ⟨0, 0, fg, bo, un, iv⟩, false, bl⟩ : Tm) = _
    rw [clip_zero (by omega), clip_zero (by omega)]
  rw [a1]
  rw [step0 fd1]
  rw [step0 fd2]
  rw [step0 fd4]
  rw [step1 fd5]
  have a2 : actM ⟨R, C, cs, 0, 0, (0, ⟨#[]⟩), ⟨0, 0, fg, bo, un, iv⟩, false, bl⟩ ⟨3, 0, [2], 74⟩ = ⟨R, C, List.replicate (R * C) blankC, 0, 0, (0, ⟨#[]⟩), ⟨0, 0, fg, bo, un, iv⟩, false, bl⟩ := by
    show (⟨R, C, wipeN cs 0 (cs.length - 0), 0, 0, (0, ⟨#[]⟩), ⟨0, 0, fg, bo, un, iv⟩, false, bl⟩ : Tm) = _
    rw [Nat.sub_zero, wipe_all, hL]
  rw [a2]
  rw [step0 fd1]
  rw [step0 fd2]
  rw [step1 fd6]
  rfl
/-- What is written behind a clearing shows as on a new terminal. -/
theorem clear_same (R C : Nat) (hm : mayB R C = true) (a s : ByteArray) : frM (writeM (newM R C) (a ++ clsB ++ s)) = frM (writeM (newM R C) s) := by
  have hst : StOk 0 (newM R C).p := .inl ⟨rfl, rfl⟩
  obtain ⟨f1, f2, -⟩ := write_facts (Inv.new hm) a hst a.size
  obtain ⟨r1, r2⟩ := write_RC (newM R C) a a.size
  have hs := S0.write (t := newM R C) ⟨rfl, rfl⟩ a a.size
  have hc := clear_new f1 f2 hs
  rw [write_app, write_app]
  rw [show writeM (newM R C) a = writeTo (newM R C) a a.size from rfl, hc, r1, r2]
  obtain ⟨c, hc⟩ := bell_write (newM R C) (writeTo (newM R C) a a.size).bells s s.size
  rw [show writeM (bell (newM (newM R C).rows (newM R C).cols) (writeTo (newM R C) a a.size).bells) s = writeTo (bell (newM R C) (writeTo (newM R C) a a.size).bells) s s.size from rfl, hc]
  rfl
end Go.Proofs.YtmemdhmjhckmaaaDoor
namespace Go.Proofs.YtmemdhmjhckmaaaDoor
open Go.RowKit
set_option maxRecDepth 100000

theorem same_self (f : Fr) (v v' : Value) (w : World) (h : FrAt w v f) (h' : FrAt w v' f) : Calls Tryd.prog 21 #[v, v'] w fun e w' => e = .returned (.bool true) ∧ Below w.heap.size w w' := by
  have := same_any f f v v' w h h'
  rw [show sameF f f = true by unfold sameF; simp] at this
  exact this
set_option maxHeartbeats 4000000 in
theorem lawClear (w : World) (hT : Tabs w) (a s : ByteArray) (a0 a1 : Nat) (ha0 : a0 < 256) (ha1 : a1 < 256) (ham : a.size ≤ maxLen) (hsm : s.size ≤ maxLen) :
    Calls Tryd.prog 5 #[.string a, .string s, .agg #[.int .u8 (a0 : Int), .int .u8 (a1 : Int)]] w fun e W' => e = .returned (.bool true) ∧ Below w.heap.size w W' := by
  unfold maxLen at ham hsm
  have HWR := hide (fun (V : World) (h : Below w.heap.size w V) => wrapped_any w V hT h)
  have hbx : Below w.heap.size w (w.alloc (.cells #[.int .u8 (a0 : Int), .int .u8 (a1 : Int)] 22)) := (Below.refl _ _).alloc (Nat.le_refl _) _
  by_cases hl : 600 < a.size ∨ 600 < s.size
  · by_cases h1 : 600 < a.size
    · have q1 : (600 : Int) < (a.size : Int) := by omega
      go_enter Tryd.func5, Tryd.ntmps5
      go_wp2_with fail
      refine (HWR.out _ hbx).mono ?_; rintro e w1 ⟨rfl, hb1⟩
      have HF := hide (hbx.trans (hb1.mono hbx.size))
      clear hbx hb1
      go_wp2
      go_ret
      exact ⟨rfl, HF.out⟩
    · have q1 : ¬ (600 : Int) < (a.size : Int) := by omega
      have q2 : (600 : Int) < (s.size : Int) := by omega
      go_enter Tryd.func5, Tryd.ntmps5
      go_wp2_with fail
      refine (HWR.out _ hbx).mono ?_; rintro e w1 ⟨rfl, hb1⟩
      have HF := hide (hbx.trans (hb1.mono hbx.size))
      clear hbx hb1
      go_wp2
      go_ret
      exact ⟨rfl, HF.out⟩
  · have q1 : ¬ (600 : Int) < (a.size : Int) := by omega
    have q2 : ¬ (600 : Int) < (s.size : Int) := by omega
    obtain ⟨r0, hr0⟩ : ∃ r, a0 % 5 = r := ⟨_, rfl⟩
    obtain ⟨r1, hr1⟩ : ∃ r, a1 % 9 = r := ⟨_, rfl⟩
    have hr0b : r0 < 5 := by omega
    have hr1b : r1 < 9 := by omega
    have t0 : Int.tmod (a0 : Int) 5 = (r0 : Int) := by rw [Int.tmod_eq_emod_of_nonneg (by omega)]; omega
    have t1 : Int.tmod (a1 : Int) 9 = (r1 : Int) := by rw [Int.tmod_eq_emod_of_nonneg (by omega)]; omega
    have u0 : (a0 : Int) % 5 = (r0 : Int) := by omega
    have u1 : (a1 : Int) % 9 = (r1 : Int) := by omega
    obtain ⟨R, hR⟩ : ∃ r, 2 + r0 = r := ⟨_, rfl⟩
    obtain ⟨C, hC⟩ : ∃ r, 8 + r1 = r := ⟨_, rfl⟩
    have v0 : IntKind.i64.wrap (2 + (r0 : Int)) = (R : Int) := (Go.wrap_small _ (by omega) (by omega)).trans (by omega)
    have v1 : IntKind.i64.wrap (8 + (r1 : Int)) = (C : Int) := (Go.wrap_small _ (by omega) (by omega)).trans (by omega)
    have hm : mayB R C = true := by unfold mayB; simp; omega
    have hI := Inv.new hm
    have hst : StOk 0 (newM R C).p := .inl ⟨rfl, rfl⟩
    have HNW := hide (fun (V : World) (h : Below w.heap.size w V) => tnew_any R C hm w V hT h)
    obtain ⟨T1, hT1⟩ : ∃ T, a ++ (⟨#[24, 27, 91, 72, 27, 91, 50, 74, 27, 91, 109]⟩ : ByteArray) = T := ⟨_, rfl⟩
    obtain ⟨T2, hT2⟩ : ∃ T, T1 ++ s = T := ⟨_, rfl⟩
    have z1 : T1.size = a.size + 11 := by rw [← hT1, ByteArray.size_append]; rfl
    have z2 : T2.size = T1.size + s.size := by rw [← hT2, ByteArray.size_append]
    have HCS := hide (show frM (writeM (newM R C) T2) = frM (writeM (newM R C) s) by rw [← hT2, ← hT1]; exact clear_same R C hm a s)
    have f1 := (write_facts hI T2 hst T2.size).1
    have f2 := (write_facts hI s hst s.size).1
    have HW1 := hide (fun (V : World) (z g cap : Nat) (H : TmB w V z g cap (newM R C)) => twrite_any (newM R C) H hT hI T2 (by omega) 0 (by omega) hst (by show (0 : Nat) ≤ _; omega))
    have HW2 := hide (fun (V : World) (z g cap : Nat) (H : TmB w V z g cap (newM R C)) => twrite_any (newM R C) H hT hI s (by omega) 0 (by omega) hst (by show (0 : Nat) ≤ _; omega))
    have hn1 := fun (t : Tm) (h : Inv t) => (show 0 < t.cs.length ∧ t.cs.length ≤ 20000 from by
      rw [h.hL]
      exact ⟨Nat.mul_pos (by have := h.hR; omega) (by have := h.hC; omega), Nat.le_trans (Nat.mul_le_mul h.hR.2 h.hC.2) (by decide)⟩)
    have HF1 := hide (fun (V : World) (z g cap : Nat) (H : TmB w V z g cap (writeM (newM R C) T2)) => tframe_any _ H (hn1 _ f1).1 (hn1 _ f1).2)
    have HF2 := hide (fun (V : World) (z g cap : Nat) (H : TmB w V z g cap (writeM (newM R C) s)) => tframe_any _ H (hn1 _ f2).1 (hn1 _ f2).2)
    obtain ⟨tA, htA⟩ : ∃ t, writeM (newM R C) T2 = t := ⟨_, rfl⟩
    obtain ⟨tB, htB⟩ : ∃ t, writeM (newM R C) s = t := ⟨_, rfl⟩
    rw [htA] at HW1 HF1 HCS
    rw [htB] at HW2 HF2 HCS
    obtain ⟨t0_, ht0_⟩ : ∃ t, newM R C = t := ⟨_, rfl⟩
    rw [ht0_] at HNW HW1 HW2
    have c1 : ¬ 9223372036854775807 < a.size + 11 := by omega
    have c2 : ¬ 9223372036854775807 < T1.size + s.size := by omega
    have HBX := hide hbx
    have HBK := hide (Blk.new w 22 [.int .u8 (a0 : Int), .int .u8 (a1 : Int)])
    rw [show [Value.int .u8 (a0 : Int), .int .u8 (a1 : Int)].toArray = #[.int .u8 (a0 : Int), .int .u8 (a1 : Int)] from rfl] at HBK
    obtain ⟨y, hy⟩ : ∃ q, w.heap.size = q := ⟨_, rfl⟩
    obtain ⟨W0, hW0⟩ : ∃ V, w.alloc (.cells #[.int .u8 (a0 : Int), .int .u8 (a1 : Int)] 22) = V := ⟨_, rfl⟩
    rw [hW0] at HBX HBK
    rw [hy] at HBK
    have y0 := HBK.out.cell (i := 0) rfl
    have y1 := HBK.out.cell (i := 1) rfl
    clear hbx hr0 hr1 hR hC hI hst f1 f2 hn1 htA htB ht0_ hm z1 z2 hl
    go_enter Tryd.func5, Tryd.ntmps5
    go_wp2_with fail
    go_region
    (try rw [hW0])
    have HB0 := hide (show Below w.heap.size w W0.drew from HBX.out.drew)
    obtain ⟨W1, hW1⟩ : ∃ V, W0.drew = V := ⟨_, rfl⟩
    rw [hW1] at HB0
    (try rw [hW1])
    clear hW0 hW1 y0 y1 hy HBK HBX
    go_wp2_with fail
    refine (HNW.out _ HB0.out).mono ?_; rintro e w2 ⟨za, ga, ca, rfl, A2, hb2, hz2, hg2⟩
    have HB2 := hide (HB0.out.trans (hb2.mono HB0.out.size))
    have A2 := hide A2
    clear hb2 hz2 hg2
    go_wp2_with fail
    refine (HNW.out _ HB2.out).mono ?_; rintro e w3 ⟨zb, gb, cb, rfl, B3, hb3, hz3, hg3⟩
    have HB3 := hide (HB2.out.trans (hb3.mono HB2.out.size))
    have A3 := hide (A2.out.low hb3)
    have n1 : zb ≠ za := by have := A2.out.b.lt; omega
    have n2 : zb ≠ ga := by have := A2.out.own.ltG; omega
    have n3 : gb ≠ za := by have := A2.out.b.lt; omega
    have n4 : gb ≠ ga := by have := A2.out.own.ltG; omega
    have B3 := hide B3
    clear hb3 hz3 hg3 A2
    go_wp2_with fail
    refine (HW1.out _ za ga ca A3.out).mono ?_; rintro e w4 ⟨rfl, A4, k4⟩
    have HB4 := hide (k4.belowB A3.out.hB A3.out.hG HB3.out A3.out.sz)
    have B4 := hide (B3.out.keep k4 n1 n2 n3 n4 A3.out.hB A3.out.hG)
    have A4 := hide A4
    clear k4 A3 B3
    go_wp2_with fail
    refine (HW2.out _ zb gb cb B4.out).mono ?_; rintro e w5 ⟨rfl, B5, k5⟩
    have HB5 := hide (k5.belowB B4.out.hB B4.out.hG HB4.out B4.out.sz)
    have A5 := hide (A4.out.keep k5 n1.symm n3.symm n2.symm n4.symm B4.out.hB B4.out.hG)
    have B5 := hide B5
    clear k5 A4 B4
    go_wp2_with fail
    refine (HF1.out _ za ga ca A5.out).mono ?_; rintro e w6 ⟨v6, rfl, hf6, hb6⟩
    have HB6 := hide (HB5.out.trans (hb6.mono HB5.out.size))
    have B6 := hide (B5.out.low hb6)
    have F6 := hide hf6.at
    clear hf6 hb6 A5 B5
    go_wp2_with fail
    refine (HF2.out _ zb gb cb B6.out).mono ?_; rintro e w7 ⟨v7, rfl, hf7, hb7⟩
    have HB7 := hide (HB6.out.trans (hb7.mono HB6.out.size))
    have F7 := hide (F6.out.below hb7)
    have G7 := hide hf7.at
    clear hf7 hb7 B6 F6
    rw [HCS.out] at F7
    go_wp2_with fail
    refine (same_self _ _ _ _ F7.out G7.out).mono ?_; rintro e w8 ⟨rfl, hb8⟩
    have HB8 := hide (HB7.out.trans (hb8.mono HB7.out.size))
    clear hb8
    go_wp2_with fail
    refine (HWR.out _ HB8.out).mono ?_; rintro e w9 ⟨rfl, hb9⟩
    have HB9 := hide (HB8.out.trans (hb9.mono HB8.out.size))
    clear hb9
    go_wp2
    go_ret
    exact ⟨rfl, HB9.out⟩
end Go.Proofs.YtmemdhmjhckmaaaDoor
namespace Go.Proofs.YtmemdhmjhckmaaaDoor
open Go.RowKit

/-- An act: its kind, its bytes, a size. -/
structure Tact where
  k : Int
  s : ByteArray
  r : Int
  c : Int
def tactCells (a : Tact) : List Value := [.int .u8 a.k, .string a.s, .int .i64 a.r, .int .i64 a.c]
/-- What an act out of the door is. -/
def TactOk (a : Tact) : Prop := (0 ≤ a.k ∧ a.k ≤ 255) ∧ a.s.size ≤ maxLen ∧ (-9223372036854775808 ≤ a.r ∧ a.r ≤ 9223372036854775807) ∧ (-9223372036854775808 ≤ a.c ∧ a.c ≤ 9223372036854775807)
theorem tact_at {w : World} {A : Option Addr} {L : List Tact} {j : Nat} {a : Tact} (h : RowOf w 4 tactCells A L) (hj : L[j]? = some a) : ∃ b o, A = some ⟨b, o, none⟩ ∧ w.cell? ⟨b, o + j * 4, none⟩ = some (.int .u8 a.k) ∧ w.cell? ⟨b, o + j * 4 + 1, none⟩ = some (.string a.s) ∧ w.cell? ⟨b, o + j * 4 + 2, none⟩ = some (.int .i64 a.r) ∧ w.cell? ⟨b, o + j * 4 + 3, none⟩ = some (.int .i64 a.c) := by
  obtain ⟨b, o, e, -, hc⟩ := h _ _ hj
  exact ⟨b, o, e, hc 0 _ rfl, hc 1 _ rfl, hc 2 _ rfl, hc 3 _ rfl⟩
theorem ret_boolT {a b : Bool} (h : a = b) : Ending.returned (.bool a) = .returned (.bool b) := by rw [h]
def greatT (L : List Tact) (m : Int) : Bool := L.any (fun a => decide (600 < a.s.size)) || decide (m < (L.length : Int))
theorem tgreat_take {L : List Tact} {j : Nat} {a : Tact} (h : L[j]? = some a) : (L.take (j + 1)).any (fun a => decide (600 < a.s.size)) = ((L.take j).any (fun a => decide (600 < a.s.size)) || decide (600 < a.s.size)) := by
  rw [List.take_add_one, h, List.any_append]
  simp
theorem tgreat_hit {L : List Tact} {j : Nat} {a : Tact} (h : L[j]? = some a) (ha : 600 < a.s.size) (m : Int) : greatT L m = true := by
  unfold greatT
  rw [Bool.or_eq_true]
  left
  rw [List.any_eq_true]
  exact ⟨a, List.mem_of_getElem? h, by simpa using ha⟩
set_option maxRecDepth 100000 in
set_option maxHeartbeats 1000000 in
theorem tgreat_any (A : Option Addr) (c : Nat) (L : List Tact) (m : Int) (w : World) (hL : L.length ≤ 9223372036854775807) (hr : RowOf w 4 tactCells A L) : Calls Tryd.prog 23 #[.slice A L.length c, .int .i64 m] w fun e w' => e = .returned (.bool (greatT L m)) ∧ w = w' := by
  have HR := hide hr
  clear hr
  have HG := hide (show greatT L m = (L.any (fun a => decide (600 < a.s.size)) || decide (m < (L.length : Int))) from rfl)
  have HH := hide (fun j a h ha => tgreat_hit (L := L) (j := j) (a := a) h ha m)
  obtain ⟨n, hn⟩ : ∃ n, L.length = n := ⟨_, rfl⟩
  have HN := hide hn
  rw [hn] at hL HG ⊢
  clear hn
  go_enter Tryd.func23, Tryd.ntmps23
  go_wp2
  go_loop [5] (fun i => ∃ k : Nat, i = .int .i64 k ∧ k ≤ n ∧ Hid ((L.take k).any (fun a => decide (600 < a.s.size)) = false)) (fun i => n - (intOf i).toNat)
  case atStart => exact ⟨0, rfl, by omega, hide (by simp)⟩
  case round =>
    obtain ⟨k, rfl, hk, HT⟩ := hrel
    by_cases hlt : k < n
    · obtain ⟨x, hx⟩ : ∃ x, L[k]? = some x := ⟨_, List.getElem?_eq_getElem (by rw [HN.out]; exact hlt)⟩
      obtain ⟨b, o, rfl, x0, x1, x2, x3⟩ := tact_at HR.out hx
      have hh := HH.out k x hx
      have hs := tgreat_take hx
      rw [HT.out] at hs
      clear hx
      obtain ⟨kd, s, r, c⟩ := x
      dsimp only at x0 x1 x2 x3 hh hs
      by_cases h3 : 600 < s.size
      · have HGT := hide (hh h3)
        have h3' : (600 : Int) < (s.size : Int) := by omega
        clear hh hs
        go_wp2
        go_ret
        exact ⟨ret_boolT HGT.out.symm, rfl⟩
      · have HS := hide (show (L.take (k + 1)).any (fun a => decide (600 < a.s.size)) = false by rw [hs]; simpa using h3)
        have h3' : ¬ (600 : Int) < (s.size : Int) := by omega
        clear hh hs
        go_wp2
        go_round
        case rel => exact ⟨k + 1, by go_num, by omega, HS⟩
        case measure => simp [intOf]; omega
    · have HE := hide (show greatT L m = decide (m < (n : Int)) by
        rw [HG.out]
        have := HT.out
        rw [List.take_of_length_le (by rw [HN.out]; omega)] at this
        rw [this, Bool.false_or])
      go_wp2
      go_ret
      exact ⟨ret_boolT HE.out.symm, rfl⟩
theorem tgreat_no {L : List Tact} {m : Int} (h : greatT L m = false) : (L.length : Int) ≤ m ∧ ∀ a ∈ L, a.s.size ≤ 600 := by
  unfold greatT at h
  rw [Bool.or_eq_false_iff] at h
  refine ⟨by have := of_decide_eq_false h.2; omega, fun a ha => ?_⟩
  have := List.any_eq_false.1 h.1 a ha
  simpa using this
end Go.Proofs.YtmemdhmjhckmaaaDoor
namespace Go.Proofs.YtmemdhmjhckmaaaDoor
open Go.ChangeShapes Go.WideShapes Go.ChangeAt Go.RowKit Go.Lib
set_option maxRecDepth 100000

theorem cellsTA : Tryd.prog.cellsOf 62 = 4 := by kernel_rfl
theorem cellsTS : Tryd.prog.cellsOf 9 = 1 := by kernel_rfl
theorem cellsTI : Tryd.prog.cellsOf 3 = 1 := by kernel_rfl
section
variable {H : Type} {enc : TypeId × Value → H}
theorem tact_of {w : World} {n : Nat} {cs : List Value} {x : DataW H × List MemPlace} (hl : cs.length = 4) (hf : DataW.trod enc Tryd.prog w 0 (fun _ => true) true n 62 cs = some x) :
    ∃ y : Tact, cs = tactCells y ∧ TactOk y := by
  match cs, hl with
  | [c0, c1, c2, c3], _ =>
    obtain ⟨xs, n, _, _, _, hlen, hi⟩ := DataW.trod_struct Tryd.underlying62 hf
    match xs, hlen with
    | [y0, y1, y2, y3], _ =>
      have h0 := hi 0 _ rfl
      have h1 := hi 1 _ rfl
      have h2 := hi 2 _ rfl
      have h3 := hi 3 _ rfl
      simp [cellsByteM, cellsTS, cellsTI] at h0 h1 h2 h3
      obtain ⟨a, e0, _, m0⟩ := DataW.trod_int Tryd.underlying5 h0
      obtain ⟨b, e1, _, m1⟩ := DataW.trod_string Tryd.underlying9 h1
      obtain ⟨c, e2, _, m2⟩ := DataW.trod_int Tryd.underlying3 h2
      obtain ⟨d, e3, _, m3⟩ := DataW.trod_int Tryd.underlying3 h3
      simp only [List.cons.injEq, and_true] at e0 e1 e2 e3
      exact ⟨⟨a, b, c, d⟩, by simp [tactCells, e0, e1, e2, e3], wfB m0, m1, wfI m2, wfI m3⟩
theorem open_tacts {w : World} {v : Value} {d : DataW H} {p : List MemPlace} {b0 : Nat} (hv : Value.okWide Tryd.prog w .any b0 58 v) (h : DataW.Trod enc Tryd.prog w 0 (fun _ => true) true 58 v d p) :
    ∃ A cap l, v = .slice A l.length cap ∧ l.length ≤ cap ∧ cap ≤ maxLen ∧ (∀ y ∈ l, TactOk y) ∧ RowOf w 4 tactCells A l := by
  obtain ⟨A, cap, l, rfl, h1, h2, h3, h5, h4⟩ := open_rows (P := Tryd.prog) (α := Tact) 4 (by omega) tactCells TactOk Tryd.underlying58 cellsTA (fun n cs x hl hf => tact_of hl hf) hv h
  exact ⟨A, cap, l, rfl, h1, h2, by first | exact h5 | exact h3, h4⟩
end
end Go.Proofs.YtmemdhmjhckmaaaDoor
