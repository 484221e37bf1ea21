/- regs: letter. -/
import Derived.Test.YtfamoikmfbpigaaDoorEesc
namespace Go.Proofs.YtfamoikmfbpigaaDoor
open Go.RowKit

/-- A letter in brackets. -/
def letE (s : ByteArray) : Option (Nat × ByteArray) :=
  match tk s with
  | none => none
  | some (b, t) => if b = 92 then escE t else if specE b = true then none else some (b, t)
theorem ResB.pre {p : Nat} {A w : World} {x : Option (Nat × ByteArray)} {e : Ending} {w' : World} (hk : KeepR p A w) (h : ResB p w x e w') : ResB p A x e w' := by
  unfold ResB at *
  cases x with
  | none => exact ⟨h.1, hk.trans h.2⟩
  | some y => exact ⟨h.1, h.2.1, hk.trans h.2.2⟩
theorem ResB.cases {p : Nat} {w : World} {x : Option (Nat × ByteArray)} {e : Ending} {w' : World} (h : ResB p w x e w') : (x = none ∧ e = panE ∧ KeepR p w w') ∨ ∃ b s, x = some (b, s) ∧ e = .returned (.int .u8 (b : Int)) ∧ Rd w' p s ∧ KeepR p w w' := by
  unfold ResB at h
  cases x with
  | none => exact .inl ⟨rfl, h.1, h.2⟩
  | some y => exact .inr ⟨y.1, y.2, rfl, h.1, h.2.1, h.2.2⟩
set_option maxHeartbeats 2000000 in
set_option maxRecDepth 100000 in
theorem let_any (p : Nat) (s : ByteArray) (w : World) (h : Rd w p s) (hm : s.size ≤ 1000000) : Calls Tryd.prog 79 #[.pointer (some ⟨p, 0, none⟩)] w (ResB p w (letE s)) := by
  have HT := take_any p s w h hm
  cases ht : tk s with
  | none =>
    have HE := hide (show letE s = none by unfold letE; rw [ht])
    rw [ht] at HT
    have HT := hide HT
    clear ht h
    go_enter Tryd.func79, Tryd.ntmps79
    go_wp2_with fail
    refine HT.out.mono ?_; rintro e w1 ⟨rfl, h1⟩
    go_wp2_with fail
    exact ⟨rfl, by rw [HE.out]; exact ⟨rfl, h1⟩⟩
  | some bt =>
    obtain ⟨b, t⟩ := bt
    have hbd := tk_bd ht
    rw [ht] at HT
    have HT := hide HT
    have HX := hide ht
    have ht1 : t.size ≤ 1000000 := by omega
    clear ht h
    by_cases b92 : b = 92
    · subst b92
      have HE := hide (show letE s = escE t by unfold letE; rw [HX.out]; rfl)
      go_enter Tryd.func79, Tryd.ntmps79
      go_wp2_with fail
      refine HT.out.mono ?_; rintro e w1 ⟨rfl, h1, h2⟩
      have K1 := hide h2
      clear h2
      go_wp2_with fail
      refine (esc_any p t _ h1 ht1).mono ?_; rintro e w2 hr
      rcases hr.cases with ⟨hx, rfl, h3⟩ | ⟨b2, t2, hx, rfl, h3, h4⟩
      · have HX2 := hide hx
        clear hr hx
        go_wp2
        exact ⟨rfl, by rw [HE.out, HX2.out]; exact ⟨rfl, K1.out.trans h3⟩⟩
      · have HX2 := hide hx
        clear hr hx
        go_wp2
        go_ret
        rw [HE.out, HX2.out]
        exact ⟨rfl, h3, K1.out.trans h4⟩
    have q92 : ((b : Int) == 92) = false := by simp; omega
    have HI := hide (fun W => Tryd.strings_IndexByte spcL (b : Int) W)
    unfold spcL at HI
    obtain ⟨n, hn⟩ : ∃ n, Lib.indexByte (⟨#[40, 41, 91, 93, 124, 42, 43, 63, 46, 92, 45, 94]⟩ : ByteArray).data.toList (b : Int).toNat.toUInt8 = n := ⟨_, rfl⟩
    have HN := hide hn
    have hsp : specE b = decide (0 ≤ n) := by unfold specE spcL; rw [← hn]; rfl
    by_cases h0 : 0 ≤ n
    · have HE := hide (show letE s = none by unfold letE; rw [HX.out]; simp [b92, hsp, h0])
      clear hsp hn
      go_enter Tryd.func79, Tryd.ntmps79
      go_wp2_with fail
      refine HT.out.mono ?_; rintro e w1 ⟨rfl, h1, h2⟩
      have K1 := hide h2
      clear h2
      go_wp2_with fail
      refine (HI.out _).mono ?_; rw [HN.out]; rintro e w2 ⟨rfl, rfl⟩
      go_wp2
      exact ⟨rfl, by rw [HE.out]; exact ⟨rfl, K1.out⟩⟩
    · have HE := hide (show letE s = some (b, t) by unfold letE; rw [HX.out]; simp [b92, hsp, h0])
      clear hsp hn
      go_enter Tryd.func79, Tryd.ntmps79
      go_wp2_with fail
      refine HT.out.mono ?_; rintro e w1 ⟨rfl, h1, h2⟩
      have H1 := hide h1
      have K1 := hide h2
      clear h1 h2
      go_wp2_with fail
      refine (HI.out _).mono ?_; rw [HN.out]; rintro e w2 ⟨rfl, rfl⟩
      go_wp2
      go_ret
      rw [HE.out]
      exact ⟨rfl, H1.out, K1.out⟩
end Go.Proofs.YtfamoikmfbpigaaDoor
