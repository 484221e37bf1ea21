/- regs.shown, limnerref10.byte1. -/
import Derived.Test.YtfamoikmfbpigaaDoorFsmall
import Derived.Test.YtfamoikmfbpigaaDoorFhas
import Derived.Laws.BytesArg
namespace Go.Proofs.YtfamoikmfbpigaaDoor
open Go.RowKit

def hexB (d : Nat) : UInt8 := hexL.data.toList[d]?.getD 0
/-- A byte as it is shown. -/
def shownE (b : Nat) : List UInt8 :=
  if b = 10 then [92, 110] else if b = 9 then [92, 116] else if b = 13 then [92, 114]
  else if specE b = true then [92, UInt8.ofNat b] else if 32 < b ∧ b < 127 then [UInt8.ofNat b] else [92, 120, hexB (b / 16), hexB (b % 16)]
def StrP (l : List UInt8) (w : World) (e : Ending) (w' : World) : Prop := e = .returned (.string ⟨l.toArray⟩) ∧ Below w.heap.size w w'
theorem StrP.mk {l : List UInt8} {s : ByteArray} {w w' : World} {e : Ending} (h : s = ⟨l.toArray⟩) (he : e = .returned (.string s)) (hb : Below w.heap.size w w') : StrP l w e w' := ⟨by rw [← h]; exact he, hb⟩
theorem conv_own (xs : List Int) (n : Nat) (hn : xs.length = n) (W : World) (g : Nat) (h : Blk W g 5 (xs.map (Value.int .u8))) : (convert 47 9 (.slice (some ⟨g, 0, none⟩) n n)).run Tryd.prog W = .ok (.string (strOfNums xs)) W := by
  refine run_convert_bytes_arg (P := Tryd.prog) _ 47 5 Tryd.underlying47 Tryd.underlying5 g 0 n n xs hn (fun i hi => ?_) 9 Tryd.underlying9
  rw [Nat.zero_add]
  exact h.cell (by simp [List.getD, List.getElem?_eq_getElem (show i < xs.length by omega)])
theorem cv1 (w : World) (a : Int) : (convert 47 9 (.slice (some ⟨w.heap.size, 0, none⟩) 1 1)).run Tryd.prog (w.alloc (.cells #[.int .u8 a] 5)) = .ok (.string (strOfNums [a])) (w.alloc (.cells #[.int .u8 a] 5)) := conv_own [a] 1 rfl _ _ (Blk.new w 5 [.int .u8 a])
theorem cv2 (w : World) (a b : Int) : (convert 47 9 (.slice (some ⟨w.heap.size, 0, none⟩) 2 2)).run Tryd.prog (w.alloc (.cells #[.int .u8 a, .int .u8 b] 5)) = .ok (.string (strOfNums [a, b])) (w.alloc (.cells #[.int .u8 a, .int .u8 b] 5)) := conv_own [a, b] 2 rfl _ _ (Blk.new w 5 [.int .u8 a, .int .u8 b])
theorem cv4 (w : World) (a b c d : Int) : (convert 47 9 (.slice (some ⟨w.heap.size, 0, none⟩) 4 4)).run Tryd.prog ((w.alloc (.cells #[.int .u8 a, .int .u8 b, .int .u8 c, .int .u8 d] 5)).drew) = .ok (.string (strOfNums [a, b, c, d])) ((w.alloc (.cells #[.int .u8 a, .int .u8 b, .int .u8 c, .int .u8 d] 5)).drew) := conv_own [a, b, c, d] 4 rfl _ _ (show Blk (w.alloc _).drew _ _ _ from Blk.new w 5 [.int .u8 a, .int .u8 b, .int .u8 c, .int .u8 d])
theorem and15 : ∀ b : Nat, b < 256 → bits .and .u8 (b : Int) 15 = ((b % 16 : Nat) : Int) := by decide +kernel
theorem hex_at (L : ByteArray) (h : hexL = L) : L.size = 16 ∧ ∀ (j : Nat) (hj : j < L.size), L[j] = hexB j := by
  subst h
  refine ⟨rfl, fun j hj => ?_⟩
  unfold hexB
  rw [List.getElem?_eq_getElem (show j < hexL.data.toList.length from hj)]
  rfl
theorem spec_idx (b : Nat) : specE b = decide (0 ≤ Lib.indexByte (⟨#[40, 41, 91, 93, 124, 42, 43, 63, 46, 92, 45, 94]⟩ : ByteArray).data.toList (b : Int).toNat.toUInt8) := rfl
theorem nums1 (b : Nat) : strOfNums [(b : Int)] = ⟨[UInt8.ofNat b].toArray⟩ := rfl
theorem nums2 (b : Nat) : strOfNums [92, (b : Int)] = ⟨[92, UInt8.ofNat b].toArray⟩ := rfl
theorem nums4 (x y : UInt8) : strOfNums [92, 120, (x.toNat : Int), (y.toNat : Int)] = ⟨[92, 120, x, y].toArray⟩ := by
  unfold strOfNums
  simp
theorem hex_nums (h l : Nat) (hh : h < 16) (hl : l < 16) : strOfNums [92, 120, ((hexL[h]'(by exact hh)).toNat : Int), ((hexL[l]'(by exact hl)).toNat : Int)] = ⟨[92, 120, hexB h, hexB l].toArray⟩ := by
  have e1 : (hexL[h]'(by exact hh)) = hexB h := (hex_at hexL rfl).2 h hh
  have e2 : (hexL[l]'(by exact hl)) = hexB l := (hex_at hexL rfl).2 l hl
  have e3 : ∀ x y x' y' : UInt8, x = x' → y = y' → (⟨[92, 120, x, y].toArray⟩ : ByteArray) = ⟨[92, 120, x', y'].toArray⟩ := fun x y x' y' h1 h2 => by rw [h1, h2]
  exact (nums4 _ _).trans (e3 _ _ _ _ e1 e2)
theorem hex_cut : ∀ h : Nat, h < 16 → (hexL.extract h (h + 1)).data.toList = [hexB h] := by decide +kernel
theorem hex_join (L : ByteArray) (hL : hexL = L) (h l : Nat) (hh : h < 16) (hl : l < 16) : (⟨#[92, 120]⟩ : ByteArray) ++ L.extract h (h + 1) ++ L.extract l (l + 1) = ⟨[92, 120, hexB h, hexB l].toArray⟩ := by
  subst hL
  apply ByteArray.ext
  rw [← Array.toList_inj]
  simp only [ByteArray.data_append, Array.toList_append]
  rw [hex_cut h hh, hex_cut l hl]
  rfl
theorem esc_join (b : Nat) : (⟨#[92]⟩ : ByteArray) ++ strOfNums [(b : Int)] = ⟨[92, UInt8.ofNat b].toArray⟩ := by
  rw [nums1]
  apply ByteArray.ext
  simp [ByteArray.data_append]
set_option maxHeartbeats 2000000 in
set_option maxRecDepth 100000 in
theorem shown_any (b : Nat) (w : World) (hb : b < 256) : Calls Tryd.prog 54 #[.int .u8 (b : Int)] w (StrP (shownE b) w) := by
  by_cases h1 : b = 10
  · subst h1
    go_enter Tryd.func54, Tryd.ntmps54
    go_wp2
    go_ret
    exact StrP.mk rfl rfl (Below.refl _ _)
  have q1 : ((b : Int) == 10) = false := by simp; omega
  by_cases h2 : b = 9
  · subst h2
    go_enter Tryd.func54, Tryd.ntmps54
    go_wp2
    go_ret
    exact StrP.mk rfl rfl (Below.refl _ _)
  have q2 : ((b : Int) == 9) = false := by simp; omega
  by_cases h3 : b = 13
  · subst h3
    go_enter Tryd.func54, Tryd.ntmps54
    go_wp2
    go_ret
    exact StrP.mk rfl rfl (Below.refl _ _)
  have q3 : ((b : Int) == 13) = false := by simp; omega
  have HI := hide (fun W => Tryd.strings_IndexByte spcL (b : Int) W)
  unfold spcL at HI
  have HSP := spec_idx b
  obtain ⟨n, hn⟩ : ∃ n, Lib.indexByte (⟨#[40, 41, 91, 93, 124, 42, 43, 63, 46, 92, 45, 94]⟩ : ByteArray).data.toList (b : Int).toNat.toUInt8 = n := ⟨_, rfl⟩
  rw [hn] at HSP
  have HN := hide hn
  clear hn
  by_cases h4 : 0 ≤ n
  · have HE := hide (show shownE b = [92, UInt8.ofNat b] by unfold shownE; rw [if_neg h1, if_neg h2, if_neg h3, HSP, decide_eq_true h4, if_pos rfl])
    have kc := cv2
    clear HSP
    go_enter Tryd.func54, Tryd.ntmps54
    go_wp2_with fail
    refine (HI.out _).mono ?_; rw [HN.out]; rintro e w1 ⟨rfl, rfl⟩
    go_wp2
    go_ret
    exact StrP.mk (by rw [HE.out]; exact nums2 b) rfl ((Below.refl _ _).alloc (Nat.le_refl _) _)
  by_cases h5 : 32 < b ∧ b < 127
  · have HE := hide (show shownE b = [UInt8.ofNat b] by unfold shownE; rw [if_neg h1, if_neg h2, if_neg h3, HSP, decide_eq_false h4, if_neg (by decide), if_pos h5])
    have kc := cv1
    have q5 : (32 : Int) < (b : Int) := by omega
    have q6 : (b : Int) < 127 := by omega
    clear HSP
    go_enter Tryd.func54, Tryd.ntmps54
    go_wp2_with fail
    refine (HI.out _).mono ?_; rw [HN.out]; rintro e w1 ⟨rfl, rfl⟩
    go_wp2
    go_ret
    exact StrP.mk (by rw [HE.out]; exact nums1 b) rfl ((Below.refl _ _).alloc (Nat.le_refl _) _)
  have HE := hide (show shownE b = [92, 120, hexB (b / 16), hexB (b % 16)] by unfold shownE; rw [if_neg h1, if_neg h2, if_neg h3, HSP, decide_eq_false h4, if_neg (by decide), if_neg h5])
  have kc := cv4
  clear HSP
  have hand := and15 b hb
  obtain ⟨h, hh⟩ : ∃ h, b / 16 = h := ⟨_, rfl⟩
  obtain ⟨l, hl⟩ : ∃ l, b % 16 = l := ⟨_, rfl⟩
  rw [hl] at hand
  rw [hh, hl] at HE
  have hdv : (b : Int) / 16 = (h : Int) := by omega
  have g1 : (0 : Int) ≤ (h : Int) := by omega
  have g2 : (h : Int) < 16 := by omega
  have g3 : (0 : Int) ≤ (l : Int) := by omega
  have g4 : (l : Int) < 16 := by omega
  have h56 : (¬ (32 : Int) < (b : Int)) ∨ ((32 : Int) < (b : Int) ∧ ¬ (b : Int) < 127) := by omega
  clear hh hl
  rcases h56 with q5 | ⟨q5, q6⟩
  all_goals (
    go_enter Tryd.func54, Tryd.ntmps54
    go_wp2_with fail
    refine (HI.out _).mono ?_; rw [HN.out]; rintro e w1 ⟨rfl, rfl⟩
    go_wp2
    go_region
    go_wp2
    go_ret
    exact StrP.mk (by rw [HE.out]; exact hex_nums h l (by omega) (by omega)) rfl (Below.drew ((Below.refl _ _).alloc (Nat.le_refl _) _)))
set_option maxHeartbeats 2000000 in
set_option maxRecDepth 100000 in
theorem byte1_any (b : Nat) (w : World) (hb : b < 256) : Calls Tryd.prog 58 #[.int .u8 (b : Int)] w (StrP (shownE b) w) := by
  by_cases h1 : b = 10
  · subst h1
    go_enter Tryd.func58, Tryd.ntmps58
    go_wp2
    go_ret
    exact StrP.mk rfl rfl (Below.refl _ _)
  have q1 : ((b : Int) == 10) = false := by simp; omega
  by_cases h2 : b = 9
  · subst h2
    go_enter Tryd.func58, Tryd.ntmps58
    go_wp2
    go_ret
    exact StrP.mk rfl rfl (Below.refl _ _)
  have q2 : ((b : Int) == 9) = false := by simp; omega
  by_cases h3 : b = 13
  · subst h3
    go_enter Tryd.func58, Tryd.ntmps58
    go_wp2
    go_ret
    exact StrP.mk rfl rfl (Below.refl _ _)
  have q3 : ((b : Int) == 13) = false := by simp; omega
  have HI := hide (rspecial_any b hb w)
  cases h4 : specE b with
  | true =>
    have HE := hide (show shownE b = [92, UInt8.ofNat b] by unfold shownE; rw [if_neg h1, if_neg h2, if_neg h3, h4, if_pos rfl])
    rw [h4] at HI
    have kc := cv1
    have o1 : ((⟨#[92]⟩ : ByteArray).size + (strOfNums [(b : Int)]).size : Int) ≤ 9223372036854775807 := by rw [strOfNums_size]; simp [ByteArray.size]
    clear h4
    go_enter Tryd.func58, Tryd.ntmps58
    go_wp2_with fail
    refine HI.out.mono ?_; rintro e w1 ⟨rfl, rfl⟩
    go_wp2
    go_ret
    exact StrP.mk (by rw [HE.out]; exact esc_join b) rfl ((Below.refl _ _).alloc (Nat.le_refl _) _)
  | false =>
    rw [h4] at HI
    by_cases h5 : 32 < b ∧ b < 127
    · have HE := hide (show shownE b = [UInt8.ofNat b] by unfold shownE; rw [if_neg h1, if_neg h2, if_neg h3, h4, if_neg (by decide), if_pos h5])
      have kc := cv1
      have q5 : (33 : Int) ≤ (b : Int) := by omega
      have q6 : (b : Int) ≤ 126 := by omega
      clear h4
      go_enter Tryd.func58, Tryd.ntmps58
      go_wp2_with fail
      refine HI.out.mono ?_; rintro e w1 ⟨rfl, rfl⟩
      go_wp2
      go_ret
      exact StrP.mk (by rw [HE.out]; exact nums1 b) rfl ((Below.refl _ _).alloc (Nat.le_refl _) _)
    have HE := hide (show shownE b = [92, 120, hexB (b / 16), hexB (b % 16)] by unfold shownE; rw [if_neg h1, if_neg h2, if_neg h3, h4, if_neg (by decide), if_neg h5])
    obtain ⟨h, hh⟩ : ∃ h, b / 16 = h := ⟨_, rfl⟩
    obtain ⟨l, hl⟩ : ∃ l, b % 16 = l := ⟨_, rfl⟩
    rw [hh, hl] at HE
    have hdv : (b : Int) / 16 = (h : Int) := by omega
    have hmd : (b : Int) % 16 = (l : Int) := by omega
    obtain ⟨h', hh'⟩ : ∃ q, h + 1 = q := ⟨_, rfl⟩
    obtain ⟨l', hl'⟩ : ∃ q, l + 1 = q := ⟨_, rfl⟩
    have w1 : IntKind.u8.wrap ((h : Int) + 1) = (h' : Int) := by rw [show (h : Int) + 1 = (h' : Int) by omega]; simp only [IntKind.wrap_u8]; omega
    have w2 : IntKind.u8.wrap ((l : Int) + 1) = (l' : Int) := by rw [show (l : Int) + 1 = (l' : Int) by omega]; simp only [IntKind.wrap_u8]; omega
    have h56 : (¬ (33 : Int) ≤ (b : Int)) ∨ ((33 : Int) ≤ (b : Int) ∧ ¬ (b : Int) ≤ 126) := by omega
    have hb16 : h < 16 ∧ l < 16 := by omega
    have HHL := hide (And.intro hh' hl')
    have e1 : h ≤ h' := by omega
    have e2 : l ≤ l' := by omega
    have e3 : h' ≤ 16 := by omega
    have e4 : l' ≤ 16 := by omega
    clear h4 hh hl hh' hl' h5
    rcases h56 with q5 | ⟨q5, q6⟩
    all_goals (
      go_enter Tryd.func58, Tryd.ntmps58
      go_wp2_with fail
      refine HI.out.mono ?_; rintro e w1 ⟨rfl, rfl⟩
      go_wp2
      obtain ⟨L, hL⟩ : ∃ L, (⟨#[48, 49, 50, 51, 52, 53, 54, 55, 56, 57, 97, 98, 99, 100, 101, 102]⟩ : ByteArray) = L := ⟨_, rfl⟩
      rw [hL]
      have hLs : L.size = 16 := by rw [← hL]; rfl
      have HJ := hide (hex_join L hL h l hb16.1 hb16.2)
      have e5 : h' ≤ L.size := by omega
      have e6 : l' ≤ L.size := by omega
      have z1 : (L.extract h h').size = 1 := by rw [ByteArray.size_extract]; have := HHL.out.1; omega
      have z2 : (L.extract l l').size = 1 := by rw [ByteArray.size_extract]; have := HHL.out.2; omega
      have y1 : ((⟨#[92, 120]⟩ : ByteArray) ++ L.extract h h').size = 3 := by rw [ByteArray.size_append, z1]; rfl
      clear hL
      go_region
      go_wp2
      go_ret
      exact StrP.mk (by rw [HE.out, ← HJ.out, HHL.out.1, HHL.out.2]) rfl (Below.drew (Below.refl _ _)))
end Go.Proofs.YtfamoikmfbpigaaDoor
