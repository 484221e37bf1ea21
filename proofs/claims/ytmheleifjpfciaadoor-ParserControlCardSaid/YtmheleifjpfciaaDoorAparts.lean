/- The walk of limnerlaw07.ParserParts. -/
import Derived.Test.YtmheleifjpfciaaDoorAbytes
import Derived.Test.YtmheleifjpfciaaDoorAasked
import Derived.Test.YtmheleifjpfciaaDoorAtell
namespace Go.Proofs.YtmheleifjpfciaaDoor
open Go.RowKit

abbrev PV := Pt × Value
def pvCells (x : PV) : List Value := [.int .u8 x.1.k, .int .i32 x.1.r, .int .u8 x.1.n, x.2]
def catB (l : List PV) (k : Nat) : List UInt8 := (l.take k).flatMap fun x => ptB x.1
def actB (l : List PV) (k : Nat) : List Ac := (l.take k).map fun x => ptA x.1
theorem catB_succ {l : List PV} {k : Nat} {x : PV} (h : l[k]? = some x) : catB l (k + 1) = catB l k ++ ptB x.1 := by
  obtain ⟨hk, rfl⟩ := List.getElem?_eq_some_iff.1 h
  unfold catB
  rw [List.take_succ_eq_append_getElem hk, List.flatMap_append]; simp
theorem actB_succ {l : List PV} {k : Nat} {x : PV} (h : l[k]? = some x) : actB l (k + 1) = actB l k ++ [ptA x.1] := by
  obtain ⟨hk, rfl⟩ := List.getElem?_eq_some_iff.1 h
  unfold actB
  rw [List.take_succ_eq_append_getElem hk, List.map_append]; rfl
theorem ptB_len (x : Pt) : (ptB x).length ≤ 100 := by
  unfold ptB
  (repeat' split)
  · simp
  · obtain ⟨h1, h2⟩ := numsN_ok x.ps
    have := ptk_len (numsN x.ps) h1 (numsN x.ps).length
    simp only [csiB, List.length_append, List.length_cons, List.length_nil]
    omega
  · simp
  · obtain ⟨a, b, c⟩ := runeN_ok x.r
    have := decode_alone a
    rw [Array.length_toList]
    show (putS (runeN x.r)).size ≤ 100
    omega
theorem ptA_ps (x : Pt) : (ptA x).ps.length ≤ 16 := by
  unfold ptA csiA
  (repeat' split) <;> simp
  exact (numsN_ok x.ps).2
theorem catB_len (l : List PV) (k : Nat) : (catB l k).length ≤ 100 * k := by
  induction k with
  | zero => simp [catB]
  | succ k ih =>
    cases h : l[k]? with
    | none =>
      have : catB l (k + 1) = catB l k := by
        have hk := List.getElem?_eq_none_iff.1 h
        unfold catB; rw [List.take_of_length_le (by omega), List.take_of_length_le (by omega)]
      rw [this]; omega
    | some x => rw [catB_succ h, List.length_append]; have := ptB_len x.1; omega
theorem cat_runs (l : List PV) (hl : ∀ x ∈ l, PtOk x.1) (k : Nat) (hk : k ≤ l.length) : runL (0, ⟨#[]⟩) (catB l k) = ((0, ⟨#[]⟩), actB l k) := by
  induction k with
  | zero => rfl
  | succ k ih =>
    have h : l[k]? = some l[k] := List.getElem?_eq_getElem (by omega)
    have ha := pt_asks (hl l[k] (List.getElem_mem _))
    unfold Asks at ha
    rw [catB_succ h, actB_succ h, runL_app, ih (by omega), ha]
theorem actB_len (l : List PV) (k : Nat) (hk : k ≤ l.length) : (actB l k).length = k := by unfold actB; simp; omega
theorem out_cat (l : List PV) (hl : ∀ x ∈ l, PtOk x.1) : outA ⟨(catB l l.length).toArray⟩ (⟨(catB l l.length).toArray⟩ : ByteArray).size = actB l l.length := by
  rw [outA_all]
  show (runL _ (catB l l.length).toArray.toList).2 = _
  rw [List.toList_toArray, cat_runs l hl _ (Nat.le_refl _)]
set_option maxRecDepth 100000 in
set_option maxHeartbeats 4000000 in
theorem ParserParts_any (A : Option Addr) (cap : Nat) (l : List PV) (w : World) (hT : UTabs w) (hl : ∀ x ∈ l, PtOk x.1 ∧ PsAt w x.2 x.1.ps) (hr : RowOf w 4 pvCells A l) (hz : l.length ≤ 9223372036854775807) :
    Calls Tryd.prog 6 #[.slice A l.length cap] w fun e w' => e = .returned (.bool true) ∧ Below w.heap.size w w' := by
  have HT := hide hT
  have HL := hide hl
  have HR := hide hr
  clear hT hl hr
  by_cases hbig : 60 < l.length
  · obtain ⟨n, hn⟩ : ∃ n, l.length = n := ⟨_, rfl⟩
    rw [hn] at hbig hz ⊢
    clear hn
    go_enter Tryd.func6, Tryd.ntmps6
    go_wp2_with (first | (go_at_call 8; refine (asked_any _ HT.out).mono ?_; rintro e w1 ⟨rfl, hb1⟩) | fail)
    go_ret
    exact ⟨rfl, hb1⟩
  have h60 : l.length ≤ 60 := by omega
  obtain ⟨n, hn⟩ : ∃ n, l.length = n := ⟨_, rfl⟩
  have HN := hide hn
  rw [hn] at h60 hz ⊢
  clear hn hbig
  go_enter Tryd.func6, Tryd.ntmps6
  go_wp2
  go_loopw [3, 4, 5] (fun sv v i wr => ∃ (k : Nat), k ≤ n ∧ i = .int .i64 k ∧ sv = .string ⟨(catB l k).toArray⟩ ∧ Hid (OwnA wr w.heap.size 34 v (actB l k)) ∧ Hid (actB l k = [] → v = .slice none 0 0) ∧ Hid (Below w.heap.size w wr)) (fun _ _ i _ => n - (intOf i).toNat)
  case atStart => exact ⟨0, Nat.zero_le _, rfl, rfl, hide (OwnA.nil _ _ _), hide (fun _ => rfl), hide (Below.refl _ _)⟩
  case round =>
    obtain ⟨k, hk, rfl, rfl, HO, H0, H3⟩ := hrel
    have hcl := catB_len l k
    have hcz : ((⟨(catB l k).toArray⟩ : ByteArray).size : Int) ≤ 6000 := by show (((catB l k).toArray.size : Nat) : Int) ≤ 6000; simp; omega
    obtain ⟨cs, hcs⟩ : ∃ cs : ByteArray, (⟨(catB l k).toArray⟩ : ByteArray) = cs := ⟨_, rfl⟩
    have HCS := hide hcs
    rw [hcs] at hcz ⊢
    clear hcs hcl
    by_cases hlt : k < n
    · have hkl : k < l.length := by rw [HN.out]; exact hlt
      have hx := List.getElem?_eq_getElem hkl
      obtain ⟨b, o, hA, hblt, hcel⟩ := (HR.out.below H3.out) k _ hx
      obtain ⟨hok, hps⟩ := HL.out _ (List.getElem_mem hkl)
      have HX := hide hx
      generalize l[k] = x at *
      obtain ⟨x, pv⟩ := x
      subst hA
      have hc0 := hcel 0 _ rfl
      have hc1 := hcel 1 _ rfl
      have hc2 := hcel 2 _ rfl
      have hc3 := hcel 3 _ rfl
      simp only [Nat.add_zero] at hc0
      have HB := hide (fun W hW => bytes_any x pv W hok (hps.below hW))
      have hbl := ptB_len x
      have hbz : ((⟨(ptB x).toArray⟩ : ByteArray).size : Int) ≤ 100 := by show (((ptB x).toArray.size : Nat) : Int) ≤ 100; simp; omega
      obtain ⟨bs, hbs⟩ : ∃ bs : ByteArray, (⟨(ptB x).toArray⟩ : ByteArray) = bs := ⟨_, rfl⟩
      have HBS := hide hbs
      rw [hbs] at hbz
      have HSC := hide (catB_succ HX.out)
      have HSA := hide (actB_succ HX.out)
      have hxk : (Value.int .u8 x.k) = .int .u8 x.k := rfl
      have HLen := hide (show (actB l k).length + [ptA x].length ≤ 1000000 by rw [actB_len _ _ (by omega)]; simp; omega)
      generalize ptA x = a at *
      clear hcel hok hps hbs hx hbl hxk
      have hk0 : (0 : Int) ≤ (k : Int) := by omega
      have hkn : (k : Int) < (n : Int) := by omega
      dsimp only at *
      go_wp2_with fail
      refine (HB.out _ H3.out).mono ?_
      rintro e w1 ⟨qv, rfl, hnum, hb1⟩
      rw [HBS.out]
      obtain ⟨Q9, cq9, rfl, hcq⟩ := hnum
      have HNU : Hid (NumsV w1 (.slice Q9 a.ps.length cq9) a.ps) := hide ⟨Q9, cq9, rfl, hcq⟩
      have HW1 := hide (H3.out.trans (hb1.mono H3.out.size))
      have hal2 := ((Below.refl w1.heap.size w1).alloc (Nat.le_refl _) (.cells #[.int .i64 a.kind, .int .i32 a.r, .slice Q9 a.ps.length cq9, .int .u8 a.fin] 34)).alloc (by simp) (.cells #[.int .i64 a.kind, .int .i32 a.r, .slice Q9 a.ps.length cq9, .int .u8 a.fin] 34)
      have HO2 := hide ((HO.out.below hb1).below hal2)
      have HW2 := hide (HW1.out.trans (hal2.mono HW1.out.size))
      have hle2 : w.heap.size ≤ w1.heap.size + 1 + 1 := Nat.le_trans HW1.out.size (by omega)
      have HLT := hide (lit_at (E := 34) (k := a.kind) (r := a.r) (f := a.fin) (HNU.out.below ((Below.refl _ _).alloc (Nat.le_refl _) (.cells #[.int .i64 a.kind, .int .i32 a.r, .slice Q9 a.ps.length cq9, .int .u8 a.fin] 34))) (by simp : (w1.alloc (.cells #[.int .i64 a.kind, .int .i32 a.r, .slice Q9 a.ps.length cq9, .int .u8 a.fin] 34)).heap.size = w1.heap.size + 1))
      clear hb1 hcq HB hc0 hc1 hc2 hc3 hal2
      go_wp2_with (first
        | (at_builtin; refine wpList_acts _ rfl _ _ 25 34 (.agg #[.int .i64 0, .int .i32 0, .slice none 0 0, .int .u8 0]) rfl w.heap.size (by simp; exact hle2) Tryd.underlying25 (by decide) info_acP (by rfl) u4 _ (actB l k) [a] rfl rfl HO2.out HLT.out HLen.out ?_; intro v6 w6 ho6 hb6 hv6; have HW6 := hide (HW2.out.trans hb6); have HO6 := hide ho6; have HV6 := hide hv6; clear ho6 hb6 hv6)
        | fail)
      go_roundw
      case rel =>
        refine ⟨k + 1, by omega, by go_num, ?_, hide ?_, hide ?_, HW6⟩
        · rw [HSC.out, ← HCS.out, ← HBS.out, toArr_app]
        · rw [HSA.out]; exact HO6.out
        · rw [HSA.out]; intro he; simp at he
      case measure => simp [intOf]; omega
    · obtain rfl : k = n := by omega
      have hout := out_cat l (fun x hx => (HL.out x hx).1)
      rw [HN.out] at hout
      obtain ⟨Q9, cq9, hform⟩ := HO.out.form
      have hal : (actB l k).length = k := actB_len l k (by rw [HN.out]; exact Nat.le_refl _)
      subst hform
      have hacts := HO.out.acts H0.out
      have hps : ∀ a ∈ actB l k, a.ps.length ≤ 1048576 := by
        intro a ha
        unfold actB at ha
        obtain ⟨x, _, rfl⟩ := List.mem_map.1 ha
        have := ptA_ps x.1
        omega
      have HI := hide (is_any ⟨(catB l k).toArray⟩ Q9 cq9 (actB l k) wr (HT.out.below H3.out) (by have := catB_len l k; show (catB l k).toArray.size ≤ 90000; simp; omega) hacts hout hps)
      rw [HCS.out, hal] at HI
      have HAL := hide hal
      clear hal hacts hps hout
      go_wp2_with (first
        | (go_at_call 14; rw [HAL.out]; refine HI.out.mono ?_; rintro e w1 ⟨rfl, hb1⟩; have HW1 := hide (H3.out.trans (hb1.mono H3.out.size)); clear hb1)
        | (go_at_call 8; refine (asked_any _ (HT.out.below HW1.out)).mono ?_; rintro e w2 ⟨rfl, hb1⟩)
        | fail)
      go_ret
      exact ⟨rfl, HW1.out.trans (hb1.mono HW1.out.size)⟩
end Go.Proofs.YtmheleifjpfciaaDoor
