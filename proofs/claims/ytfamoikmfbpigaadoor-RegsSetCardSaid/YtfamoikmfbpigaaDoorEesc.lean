/- regs: digit, escaped, letter. -/
import Derived.Test.YtfamoikmfbpigaaDoorEtake
namespace Go.Proofs.YtfamoikmfbpigaaDoor
open Go.RowKit

/-- What is taken, and the rest. -/
def tk (s : ByteArray) : Option (Nat × ByteArray) := if h : 0 < s.size then some (s[0].toNat, s.extract 1 s.size) else none
/-- A byte and the rest; or the panic. -/
def ResB (p : Nat) (w : World) (x : Option (Nat × ByteArray)) (e : Ending) (w' : World) : Prop :=
  match x with
  | some (b, s) => e = .returned (.int .u8 (b : Int)) ∧ Rd w' p s ∧ KeepR p w w'
  | none => e = panE ∧ KeepR p w w'
theorem tk_bd {s t : ByteArray} {b : Nat} (h : tk s = some (b, t)) : b < 256 ∧ t.size + 1 = s.size := by
  unfold tk at h
  split at h
  · rename_i h0
    injection h with h; injection h with h1 h2
    subst h1 h2
    exact ⟨s[0].toNat_lt, by rw [ByteArray.size_extract]; omega⟩
  · cases h
theorem take_any (p : Nat) (s : ByteArray) (w : World) (h : Rd w p s) (hm : s.size ≤ 1000000) : Calls Tryd.prog 62 #[.pointer (some ⟨p, 0, none⟩)] w (ResB p w (tk s)) := by
  by_cases h0 : 0 < s.size
  · refine (take_some p s w h h0 hm).mono ?_
    rintro e w' ⟨rfl, h1, h2⟩
    unfold tk
    rw [dif_pos h0]
    exact ⟨rfl, h1, h2⟩
  · obtain rfl := is_emp (s := s) (by omega)
    refine (take_none p w h).mono ?_
    rintro e w' ⟨rfl, rfl⟩
    exact ⟨rfl, KeepR.refl _ _⟩
def hexL : ByteArray := ⟨#[48, 49, 50, 51, 52, 53, 54, 55, 56, 57, 97, 98, 99, 100, 101, 102]⟩
def spcL : ByteArray := ⟨#[40, 41, 91, 93, 124, 42, 43, 63, 46, 92, 45, 94]⟩
def dgI (b : Nat) : Int := Lib.indexByte hexL.data.toList (bits .or .u8 (b : Int) 32).toNat.toUInt8
def digE (b : Nat) : Option Nat := if dgI b < 0 ∨ b < 48 then none else some (dgI b).toNat
def specE (b : Nat) : Bool := decide (0 ≤ Lib.indexByte spcL.data.toList b.toUInt8)
theorem dg_bd : ∀ b, b < 256 → -1 ≤ dgI b ∧ dgI b ≤ 15 := by decide +kernel
theorem ret_u8 {a b : Int} (h : a = b) : Ending.returned (.int .u8 a) = .returned (.int .u8 b) := by rw [h]
def DigP (b : Nat) (e : Ending) : Prop := e = (match digE b with | some d => .returned (.int .u8 (d : Int)) | none => panE)
theorem DigP.no {b : Nat} (h : digE b = none) : DigP b panE := by unfold DigP; rw [h]
theorem DigP.yes {b d : Nat} {n : Int} (h : digE b = some d) (hn : n = d) : DigP b (.returned (.int .u8 n)) := by unfold DigP; rw [h, hn]
set_option maxRecDepth 100000 in
theorem digit_any (b : Nat) (w : World) (hb : b < 256) : Calls Tryd.prog 80 #[.int .u8 (b : Int)] w fun e w' => DigP b e ∧ w = w' := by
  have hbd := dg_bd b hb
  have HI := hide (Tryd.strings_IndexByte hexL (bits .or .u8 (b : Int) 32) w)
  unfold hexL at HI
  obtain ⟨n, hn⟩ : ∃ n, dgI b = n := ⟨_, rfl⟩
  have HN := hide (show Lib.indexByte (⟨#[48, 49, 50, 51, 52, 53, 54, 55, 56, 57, 97, 98, 99, 100, 101, 102]⟩ : ByteArray).data.toList (bits .or .u8 (b : Int) 32).toNat.toUInt8 = n from hn)
  rw [hn] at hbd
  by_cases h1 : n < 0
  · have HD := hide (show digE b = none by unfold digE; rw [hn, if_pos (.inl h1)])
    clear hn
    go_enter Tryd.func80, Tryd.ntmps80
    go_wp2_with fail
    refine HI.out.mono ?_; rw [HN.out]; rintro e w1 ⟨rfl, rfl⟩
    go_wp2
    exact ⟨rfl, DigP.no HD.out, rfl⟩
  by_cases h2 : b < 48
  · have HD := hide (show digE b = none by unfold digE; rw [if_pos (.inr h2)])
    have h2' : (b : Int) < 48 := by omega
    clear hn
    go_enter Tryd.func80, Tryd.ntmps80
    go_wp2_with fail
    refine HI.out.mono ?_; rw [HN.out]; rintro e w1 ⟨rfl, rfl⟩
    go_wp2
    exact ⟨rfl, DigP.no HD.out, rfl⟩
  · have HD := hide (show digE b = some n.toNat by unfold digE; rw [hn, if_neg (by omega)])
    have h2' : ¬ (b : Int) < 48 := by omega
    have hw : IntKind.u8.wrap n = n := by simp [IntKind.wrap_u8]; omega
    clear hn
    go_enter Tryd.func80, Tryd.ntmps80
    go_wp2_with fail
    refine HI.out.mono ?_; rw [HN.out]; rintro e w1 ⟨rfl, rfl⟩
    go_wp2
    go_ret
    exact ⟨DigP.yes HD.out (show n = (n.toNat : Int) by omega), rfl⟩
theorem DigP.is_no {b : Nat} {e : Ending} (h : digE b = none) (he : DigP b e) : e = panE := by unfold DigP at he; rw [h] at he; exact he
theorem DigP.is_yes {b d : Nat} {e : Ending} (h : digE b = some d) (he : DigP b e) : e = .returned (.int .u8 (d : Int)) := by unfold DigP at he; rw [h] at he; exact he
/-- The byte behind a stroke. -/
def escE (s : ByteArray) : Option (Nat × ByteArray) :=
  match tk s with
  | none => none
  | some (b, s1) =>
    if b = 110 then some (10, s1) else if b = 116 then some (9, s1) else if b = 114 then some (13, s1)
    else if b = 120 then
      match tk s1 with
      | none => none
      | some (x, s2) => match digE x with
        | none => none
        | some h => match tk s2 with
          | none => none
          | some (y, s3) => match digE y with
            | none => none
            | some l => some (h * 16 + l, s3)
    else if specE b = true then some (b, s1) else none
theorem dig_bd {b d : Nat} (hb : b < 256) (h : digE b = some d) : d ≤ 15 := by
  have := dg_bd b hb
  unfold digE at h
  split at h
  · cases h
  · injection h with h; omega
theorem hex2 : ∀ h : Nat, h < 16 → ∀ l : Nat, l < 16 → bits .or .u8 ((h : Int) * 16) (l : Int) = (h : Int) * 16 + (l : Int) := by decide +kernel
set_option maxHeartbeats 2000000 in
set_option maxRecDepth 100000 in
theorem esc_any (p : Nat) (s : ByteArray) (w : World) (h : Rd w p s) (hm : s.size ≤ 1000000) : Calls Tryd.prog 72 #[.pointer (some ⟨p, 0, none⟩)] w (ResB p w (escE s)) := by
  have HT := hide (take_any p s w h hm)
  have HT := HT.out
  cases ht : tk s with
  | none =>
    have HE := hide (show escE s = none by unfold escE; rw [ht])
    rw [ht] at HT
    have HT := hide HT
    clear ht h
    go_enter Tryd.func72, Tryd.ntmps72
    go_wp2_with fail
    refine HT.out.mono ?_; rintro e w1 ⟨rfl, h1⟩
    go_wp2_with fail
    exact ⟨rfl, by rw [HE.out]; exact ⟨rfl, h1⟩⟩
  | some bt =>
    obtain ⟨b, t⟩ := bt
    have hbd := tk_bd ht
    rw [ht] at HT
    have HT := hide HT
    have HX := hide ht
    clear ht h
    by_cases b110 : b = 110
    · subst b110
      have HE := hide (show escE s = some (10, t) by unfold escE; rw [HX.out]; rfl)
      go_enter Tryd.func72, Tryd.ntmps72
      go_wp2_with fail
      refine HT.out.mono ?_; rintro e w1 ⟨rfl, h1, h2⟩
      go_wp2
      go_ret
      rw [HE.out]
      exact ⟨rfl, h1, h2⟩
    by_cases b116 : b = 116
    · subst b116
      have HE := hide (show escE s = some (9, t) by unfold escE; rw [HX.out]; rfl)
      go_enter Tryd.func72, Tryd.ntmps72
      go_wp2_with fail
      refine HT.out.mono ?_; rintro e w1 ⟨rfl, h1, h2⟩
      go_wp2
      go_ret
      rw [HE.out]
      exact ⟨rfl, h1, h2⟩
    by_cases b114 : b = 114
    · subst b114
      have HE := hide (show escE s = some (13, t) by unfold escE; rw [HX.out]; rfl)
      go_enter Tryd.func72, Tryd.ntmps72
      go_wp2_with fail
      refine HT.out.mono ?_; rintro e w1 ⟨rfl, h1, h2⟩
      go_wp2
      go_ret
      rw [HE.out]
      exact ⟨rfl, h1, h2⟩
    have q110 : ((b : Int) == 110) = false := by simp; omega
    have q116 : ((b : Int) == 116) = false := by simp; omega
    have q114 : ((b : Int) == 114) = false := by simp; omega
    by_cases b120 : b = 120
    · subst b120
      have ht1 : t.size ≤ 1000000 := by omega
      clear q110 q116 q114
      have HT1 := fun W h => take_any p t W h ht1
      cases hx : tk t with
      | none =>
        have HE := hide (show escE s = none by unfold escE; rw [HX.out]; simp [hx])
        rw [hx] at HT1
        have HT1 := hide HT1
        clear hx
        go_enter Tryd.func72, Tryd.ntmps72
        go_wp2_with fail
        refine HT.out.mono ?_; rintro e w1 ⟨rfl, h1, h2⟩
        have H1 := hide h1
        have K1 := hide h2
        clear h1 h2
        go_wp2_with fail
        refine (HT1.out _ H1.out).mono ?_; rintro e w2 ⟨rfl, h1⟩
        go_wp2
        exact ⟨rfl, by rw [HE.out]; exact ⟨rfl, K1.out.trans h1⟩⟩
      | some xt =>
        obtain ⟨x, t2⟩ := xt
        have hxb := tk_bd hx
        rw [hx] at HT1
        have HT1 := hide HT1
        have HX2 := hide hx
        have HD1 := hide (fun W => digit_any x W hxb.1)
        clear hx
        cases hd : digE x with
        | none =>
          have HE := hide (show escE s = none by unfold escE; rw [HX.out]; simp [HX2.out, hd])
          have HDN := hide hd
          clear hd
          go_enter Tryd.func72, Tryd.ntmps72
          go_wp2_with fail
          refine HT.out.mono ?_; rintro e w1 ⟨rfl, h1, h2⟩
          have H1 := hide h1
          have K1 := hide h2
          clear h1 h2
          go_wp2_with fail
          refine (HT1.out _ H1.out).mono ?_; rintro e w2 ⟨rfl, h1, h2⟩
          go_wp2_with fail
          refine (HD1.out _).mono ?_; rintro e w3 ⟨he, rfl⟩
          obtain rfl := DigP.is_no HDN.out he
          go_wp2
          exact ⟨rfl, by rw [HE.out]; exact ⟨rfl, K1.out.trans h2⟩⟩
        | some d =>
          have hdb := dig_bd hxb.1 hd
          have HDY := hide hd
          clear hd
          have ht2 : t2.size ≤ 1000000 := by omega
          have HT2 := fun W h => take_any p t2 W h ht2
          have hwd : IntKind.u8.wrap ((d : Int) * 16) = (d : Int) * 16 := by simp [IntKind.wrap_u8]; omega
          cases hy : tk t2 with
          | none =>
            have HE := hide (show escE s = none by unfold escE; rw [HX.out]; simp [HX2.out, HDY.out, hy])
            rw [hy] at HT2
            have HT2 := hide HT2
            clear hy
            go_enter Tryd.func72, Tryd.ntmps72
            go_wp2_with fail
            refine HT.out.mono ?_; rintro e w1 ⟨rfl, h1, h2⟩
            have H1 := hide h1
            have K1 := hide h2
            clear h1 h2
            go_wp2_with fail
            refine (HT1.out _ H1.out).mono ?_; rintro e w2 ⟨rfl, h1, h2⟩
            go_wp2_with fail
            refine (HD1.out _).mono ?_; rintro e w3 ⟨he, rfl⟩
            obtain rfl := DigP.is_yes HDY.out he
            go_wp2_with fail
            refine (HT2.out _ h1).mono ?_; rintro e w4 ⟨rfl, h3⟩
            go_wp2
            exact ⟨rfl, by rw [HE.out]; exact ⟨rfl, (K1.out.trans h2).trans h3⟩⟩
          | some yt =>
            obtain ⟨y, t3⟩ := yt
            have hyb := tk_bd hy
            rw [hy] at HT2
            have HT2 := hide HT2
            have HY2 := hide hy
            have HD2 := hide (fun W => digit_any y W hyb.1)
            clear hy
            cases hd2 : digE y with
            | none =>
              have HE := hide (show escE s = none by unfold escE; rw [HX.out]; simp [HX2.out, HDY.out, HY2.out, hd2])
              have HDN := hide hd2
              clear hd2
              go_enter Tryd.func72, Tryd.ntmps72
              go_wp2_with fail
              refine HT.out.mono ?_; rintro e w1 ⟨rfl, h1, h2⟩
              have H1 := hide h1
              have K1 := hide h2
              clear h1 h2
              go_wp2_with fail
              refine (HT1.out _ H1.out).mono ?_; rintro e w2 ⟨rfl, h1, h2⟩
              go_wp2_with fail
              refine (HD1.out _).mono ?_; rintro e w3 ⟨he, rfl⟩
              obtain rfl := DigP.is_yes HDY.out he
              go_wp2_with fail
              refine (HT2.out _ h1).mono ?_; rintro e w4 ⟨rfl, h3, h4⟩
              go_wp2_with fail
              refine (HD2.out _).mono ?_; rintro e w5 ⟨he, rfl⟩
              obtain rfl := DigP.is_no HDN.out he
              go_wp2
              exact ⟨rfl, by rw [HE.out]; exact ⟨rfl, (K1.out.trans h2).trans h4⟩⟩
            | some l =>
              have hlb := dig_bd hyb.1 hd2
              have HDY2 := hide hd2
              clear hd2
              have HE := hide (show escE s = some (d * 16 + l, t3) by unfold escE; rw [HX.out]; simp [HX2.out, HDY.out, HY2.out, HDY2.out])
              have hor := hex2 d (by omega) l (by omega)
              have HOR := hide (show (d : Int) * 16 + (l : Int) = ((d * 16 + l : Nat) : Int) by omega)
              go_enter Tryd.func72, Tryd.ntmps72
              go_wp2_with fail
              refine HT.out.mono ?_; rintro e w1 ⟨rfl, h1, h2⟩
              have H1 := hide h1
              have K1 := hide h2
              clear h1 h2
              go_wp2_with fail
              refine (HT1.out _ H1.out).mono ?_; rintro e w2 ⟨rfl, h1, h2⟩
              go_wp2_with fail
              refine (HD1.out _).mono ?_; rintro e w3 ⟨he, rfl⟩
              obtain rfl := DigP.is_yes HDY.out he
              go_wp2_with fail
              refine (HT2.out _ h1).mono ?_; rintro e w4 ⟨rfl, h3, h4⟩
              go_wp2_with fail
              refine (HD2.out _).mono ?_; rintro e w5 ⟨he, rfl⟩
              obtain rfl := DigP.is_yes HDY2.out he
              go_wp2
              go_ret
              rw [HE.out]
              exact ⟨ret_u8 HOR.out, h3, (K1.out.trans h2).trans h4⟩
    have q120 : ((b : Int) == 120) = false := by simp; omega
    have HI := hide (fun W => Tryd.strings_IndexByte spcL (b : Int) W)
    unfold spcL at HI
    obtain ⟨n, hn⟩ : ∃ n, Lib.indexByte (⟨#[40, 41, 91, 93, 124, 42, 43, 63, 46, 92, 45, 94]⟩ : ByteArray).data.toList (b : Int).toNat.toUInt8 = n := ⟨_, rfl⟩
    have HN := hide hn
    have hsp : specE b = decide (0 ≤ n) := by unfold specE spcL; rw [← hn]; rfl
    by_cases h0 : 0 ≤ n
    · have HE := hide (show escE s = some (b, t) by unfold escE; rw [HX.out]; simp [b110, b116, b114, b120, hsp, h0])
      clear hsp hn
      go_enter Tryd.func72, Tryd.ntmps72
      go_wp2_with fail
      refine HT.out.mono ?_; rintro e w1 ⟨rfl, h1, h2⟩
      have H1 := hide h1
      have K1 := hide h2
      clear h1 h2
      go_wp2_with fail
      refine (HI.out _).mono ?_; rw [HN.out]; rintro e w2 ⟨rfl, rfl⟩
      go_wp2
      go_ret
      rw [HE.out]
      exact ⟨rfl, H1.out, K1.out⟩
    · have HE := hide (show escE s = none by unfold escE; rw [HX.out]; simp [b110, b116, b114, b120, hsp, h0])
      clear hsp hn
      go_enter Tryd.func72, Tryd.ntmps72
      go_wp2_with fail
      refine HT.out.mono ?_; rintro e w1 ⟨rfl, h1, h2⟩
      have H1 := hide h1
      have K1 := hide h2
      clear h1 h2
      go_wp2_with fail
      refine (HI.out _).mono ?_; rw [HN.out]; rintro e w2 ⟨rfl, rfl⟩
      go_wp2
      exact ⟨rfl, by rw [HE.out]; exact ⟨rfl, K1.out⟩⟩
end Go.Proofs.YtfamoikmfbpigaaDoor
