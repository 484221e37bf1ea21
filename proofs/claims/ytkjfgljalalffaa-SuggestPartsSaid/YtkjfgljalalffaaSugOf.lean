/- Contract of suggest.Of. -/
import Derived.Test.YtkjfgljalalffaaBack
namespace Go.Proofs.Ytkjfgljalalffaa
open Go.RowKit Go.Shelf

attribute [local go_sem] Oper.semAt_some

theorem empty_iff (b : ByteArray) : b.toList.isEmpty = decide (b.size = 0) := by
  rw [ByteArray.toList_eq]
  have : b.data.toList.length = b.size := Array.length_toList
  rw [← this]
  cases b.data.toList <;> simp
theorem cut_size {x t : ByteArray} : (x.extract t.size x.size).size = x.size - t.size := by
  simp
theorem hit_yes {x t : ByteArray} (h : cutOk x t = true) (h2 : (!(cutS x t).toList.isEmpty) = true) : hit x t = true ∧ cutS x t = x.extract t.size x.size := by
  have e : cutS x t = x.extract t.size x.size := by rw [cutS, h]; rfl
  rw [e, empty_iff, cut_size] at h2
  simp only [cutOk, Bool.and_eq_true, decide_eq_true_eq] at h
  simp at h2
  exact ⟨by simp only [hit, h.2, Bool.and_true, decide_eq_true_eq]; omega, e⟩
theorem hit_no {x t : ByteArray} (h : ¬ cutOk x t = true ∨ (cutOk x t = true ∧ (!(cutS x t).toList.isEmpty) = false)) : hit x t = false := by
  rcases h with h | ⟨h, h2⟩
  · simp only [cutOk, Bool.and_eq_true, decide_eq_true_eq] at h
    cases hh : hit x t
    · rfl
    · simp only [hit, Bool.and_eq_true, decide_eq_true_eq] at hh
      exact absurd ⟨by omega, hh.2⟩ h
  · have e : cutS x t = x.extract t.size x.size := by rw [cutS, h]; rfl
    rw [e, empty_iff, cut_size] at h2
    simp at h2
    simp only [hit, Bool.and_eq_false_iff, decide_eq_false_iff_not]
    left; omega

theorem ofK_skip {zs : List ByteArray} {t : ByteArray} {k : Nat} (hk : k ≤ zs.length) (h : ∀ p ∈ down zs k, hit p.2 t = false) : ofK zs t zs.length = ofK zs t (zs.length - k) := by
  induction k with
  | zero => rfl
  | succ k ih =>
    rw [ih (by omega) (fun p hp => h p (by rw [down_succ]; exact List.mem_append_left _ hp))]
    have hh := h (zs.length - 1 - k, zs[zs.length - 1 - k]?.getD ByteArray.empty) (by rw [down_succ]; simp)
    obtain ⟨m, hm⟩ : ∃ m, m = zs.length - 1 - k := ⟨_, rfl⟩
    rw [← hm] at hh
    rw [show zs.length - k = m + 1 by omega, show zs.length - (k + 1) = m by omega]
    simp only [ofK, hh]
    rfl
theorem ofK_done {zs : List ByteArray} {t : ByteArray} (h : ∀ p ∈ down zs zs.length, hit p.2 t = false) : ofK zs t zs.length = ⟨#[]⟩ := by
  rw [ofK_skip (Nat.le_refl _) h, Nat.sub_self]; rfl
theorem ofK_found {zs : List ByteArray} {t : ByteArray} {k : Nat} {ini : List (Nat × ByteArray)} {last : Nat × ByteArray} (hk : k ≤ zs.length) (e : down zs k = ini ++ [last]) (h : ∀ p ∈ ini, hit p.2 t = false) (hl : hit last.2 t = true) :
    ofK zs t zs.length = last.2.extract t.size last.2.size := by
  obtain ⟨k', rfl⟩ : ∃ k', k = k' + 1 := by
    cases k with
    | zero => simp [down] at e
    | succ k' => exact ⟨k', rfl⟩
  rw [down_succ] at e
  obtain ⟨rfl, e5⟩ := List.append_inj' e rfl
  simp only [List.cons.injEq, and_true] at e5
  subst e5
  rw [ofK_skip (by omega) h]
  obtain ⟨m, hm⟩ : ∃ m, m = zs.length - 1 - k' := ⟨_, rfl⟩
  rw [← hm] at hl
  dsimp only
  rw [← hm, show zs.length - k' = m + 1 by omega]
  dsimp only at hl
  simp only [ofK, hl]
  rfl

set_option maxRecDepth 100000 in
set_option maxHeartbeats 1000000 in
theorem of_empty (a : Option Addr) (len cap : Nat) (t : ByteArray) (w : World) (ht : t.size = 0) :
    Calls Try.prog 8 #[.slice a len cap, .string t] w fun e w' => e = .returned (.string ⟨#[]⟩) ∧ Below w.heap.size w w' := by
  obtain rfl : t = ⟨#[]⟩ := by
    cases t with | mk d => exact congrArg _ (Array.eq_empty_of_size_eq_zero ht)
  go_enter Try.func8, Try.ntmps8
  go_wp2
  exact bodyPost_ret (v := .string ⟨#[]⟩) (by simp [results, Try.f8, go_sem]) rfl ⟨rfl, ((Below.refl _ _).alloc (Nat.le_refl _) _).alloc (by simp) _⟩

set_option maxRecDepth 100000 in
set_option maxHeartbeats 2000000 in
theorem of_some (a : Option Addr) (len cap : Nat) (zs : List ByteArray) (t : ByteArray) (w : World) (hreach : zs.length ≤ 17592186044415) (ht : 0 < t.size) (hI : Strs w.heap.size w (.slice a len cap) zs) :
    Calls Try.prog 8 #[.slice a len cap, .string t] w fun e w' => e = .returned (.string (ofK zs t zs.length)) ∧ Below w.heap.size w w' := by
  have ht' : t.toList.isEmpty = false := by
    rw [ByteArray.toList_eq]
    have : t.data.toList.length = t.size := Array.length_toList
    cases hq : t.data.toList with
    | nil => rw [hq] at this; simp at this; omega
    | cons _ _ => rfl
  refine (callsIn_wide (n := 3)).1 ?_
  refine callsIn_of_wp_marks Try.func8 rfl trivial ?_ rfl
  simp only [Try.ntmps8, List.size_toArray, List.length_cons, List.length_nil, Nat.reduceAdd, Nat.reduceSub, Array.replicate_succ, Array.replicate_zero, List.push_toArray, List.append_toArray, List.nil_append, List.cons_append]
  gi_wp2_with (refine ⟨trivial, ?_⟩; gi_at_call 12; refine (back_in Fence.wide _ trivial rfl _ _ _ _).mono ?_; rintro e w' ⟨rfl, rfl⟩)
  have bT := Boxed.new w 9 (.string t)
  have bR := Boxed.new (w.alloc (.cells #[.string t] 9)) 9 (.string ⟨#[]⟩)
  have bS := Boxed.new ((w.alloc (.cells #[.string t] 9)).alloc (.cells #[.string ⟨#[]⟩] 9)) 22 (.slice a len cap)
  simp only [World.size_alloc] at bT bR bS
  have bT2 := (bT.alloc (.cells #[.string ⟨#[]⟩] 9)).alloc (.cells #[.slice a len cap] 22)
  have bR2 := bR.alloc (.cells #[.slice a len cap] 22)
  have hB0 : Below w.heap.size w (((w.alloc (.cells #[.string t] 9)).alloc (.cells #[.string ⟨#[]⟩] 9)).alloc (.cells #[.slice a len cap] 22)) :=
    (((Below.refl _ w).alloc (Nat.le_refl _) _).alloc (by simp) _).alloc (by simp; omega) _
  have hsz : (((w.alloc (.cells #[.string t] 9)).alloc (.cells #[.string ⟨#[]⟩] 9)).alloc (.cells #[.slice a len cap] 22)).heap.size = w.heap.size + 3 := by simp
  refine wpIn_rangeFunc_ownG rfl (by omega) (gf := 17) (lb := #[.pointer (some ⟨w.heap.size + 1 + 1, 0, none⟩)]) rfl trivial (enters_of Try.func17 (by kernel_rfl) rfl)
    (back_stops Fence.wide _ trivial rfl (by omega) (w.heap.size + 1 + 1) (w.heap.size + 3) _ zs hreach _ (by rw [hsz]; omega) (by omega) (by rw [hsz]; omega) bS.cell ((hI.below hB0).mono (by omega))) belowK_t (belowK_b (by rw [hsz]; omega)) (Below.refl _ _) (fun _ => rfl)
    (fun pre W => ((∀ p ∈ pre, hit p.2 t = false) ∧ W.cell? ⟨w.heap.size, 0, none⟩ = some (.string t) ∧ W.cell? ⟨w.heap.size + 1, 0, none⟩ = some (.string ⟨#[]⟩) ∧ W.frozen? ⟨w.heap.size + 1, 0, none⟩ = false) ∧ Below w.heap.size w W)
    (fun c pre W => (c = .ret ∧ ∃ ini last, pre = ini ++ [last] ∧ (∀ p ∈ ini, hit p.2 t = false) ∧ hit last.2 t = true ∧ W.cell? ⟨w.heap.size + 1, 0, none⟩ = some (.string (last.2.extract t.size last.2.size))) ∧ Below w.heap.size w W)
    (OwnFrom.and (Own.from (fun s A B row hs hg hr => ⟨hs.1, cell_kept hs.2.1 hg hr, cell_kept hs.2.2.1 hg hr, (frozen_kept hs.2.2.1 hg hr).trans hs.2.2.2⟩) _) (ownFrom_below (Nat.le_refl _) (by rw [hsz]; omega)))
    (fun c => OwnFrom.and (Own.from (fun s A B row hs hg hr => by obtain ⟨hc, ini, last, e1, e2, e3, e4⟩ := hs; exact ⟨hc, ini, last, e1, e2, e3, cell_kept e4 hg hr⟩) _) (ownFrom_below (Nat.le_refl _) (by rw [hsz]; omega)))
    ⟨⟨by simp, bT2.cell, bR2.cell, bR2.frozen⟩, hB0⟩
    (fun x => { tmps := #[.slice a len cap, .string t, undef, .pointer (some ⟨w.heap.size, 0, none⟩), .pointer (some ⟨w.heap.size + 1, 0, none⟩), undef, .string x.2, undef, undef, .string t, .bool false, .slice a len cap, .func (.func 17) #[] #[.pointer (some ⟨w.heap.size + 1 + 1, 0, none⟩)], .int .i64 (x.1 : Int), .string x.2, undef, undef, undef, undef, undef, undef, undef, undef, undef, undef, undef, undef], defers := [] }) ?assign ?body ?done ?stop
  case assign =>
    intro l x W K hK
    gi_wp2
    exact hK
  case body =>
    rintro l pre x W ⟨⟨hp, hct, hcr, hfr⟩, hB⟩ _
    gi_wp2_with (refine ⟨trivial, ?_⟩; gi_at_call 13; refine (CallsIn.inRound l (callsIn_wide.2 (cut_any x.2 t _))).mono ?_; rintro e w' ⟨rfl, rfl⟩)
    · have h1 : cutOk x.2 t = true := by assumption
      have h2 : (!(cutS x.2 t).toList.isEmpty) = true := by assumption
      obtain ⟨h3, h4⟩ := hit_yes h1 h2
      exact ⟨(KeepsOthers.setCell _ _ _).from _, ⟨rfl, pre, x, rfl, hp, h3, by rw [← h4]; exact World.cell?_setCell_same' _ _ _ (by rw [hcr]; rfl)⟩, hB.setCell (p := ⟨w.heap.size + 1, 0, none⟩) (by simp) _⟩
    · have h1 : cutOk x.2 t = true := by assumption
      have h2 : (!(cutS x.2 t).toList.isEmpty) = false := by assumption
      have h3 := hit_no (.inr ⟨h1, h2⟩)
      exact ⟨KeepsFrom.refl _ _, Below.refl _ _, ⟨fun p hp' => (List.mem_append.1 hp').elim (hp p) (fun e => by simp at e; subst e; exact h3), hct, hcr, hfr⟩, hB⟩
    · have h1 : ¬ cutOk x.2 t = true := by assumption
      have h3 := hit_no (.inl h1)
      exact ⟨KeepsFrom.refl _ _, Below.refl _ _, ⟨fun p hp' => (List.mem_append.1 hp').elim (hp p) (fun e => by simp at e; subst e; exact h3), hct, hcr, hfr⟩, hB⟩
  case done =>
    rintro D ys W hD rfl ⟨⟨hne, hct, hcr, hfr⟩, hB⟩ hK
    gi_wp2
    have hK' := (KeepsOthers.setCell W ⟨w.heap.size + 1, 0, none⟩ (.string ⟨#[]⟩)).same D _ hK rfl
    refine ⟨by simp, .inl ⟨_, _, rfl, run_takeDeferred hK', ?_⟩⟩
    have hc5 := cell_kept (World.cell?_setCell_same' W ⟨w.heap.size + 1, 0, none⟩ (.string ⟨#[]⟩) (by rw [hcr]; rfl)) (grownBy_putObj' _ D (.deferred none)) (fun r e => by cases e; exact ⟨_, hK', rfl⟩)
    refine ⟨.string ⟨#[]⟩, ?_, ?_, (hB.setCell (p := ⟨w.heap.size + 1, 0, none⟩) (by simp) _).trans (belowK_b (w := w) (Nat.le_refl _) _ D _ _ (by simp at hD; omega) hK' rfl rfl)⟩
    · simp [results, Try.f8, go_sem, hc5]
    · rw [ofK_done hne]
  case stop =>
    rintro D c pre W hD ⟨k, hk, rfl⟩ ⟨⟨rfl, ini, last, e1, e2, e3, hcr⟩, hB⟩ hK
    gi_wp2
    refine ⟨by simp, .inl ⟨_, _, rfl, run_takeDeferred hK, ?_⟩⟩
    have hc5 := cell_kept hcr (grownBy_putObj' _ D (.deferred none)) (fun r e => by cases e; exact ⟨_, hK, rfl⟩)
    refine ⟨.string (last.2.extract t.size last.2.size), ?_, ?_, hB.trans (belowK_b (w := w) (Nat.le_refl _) W D _ _ (by simp at hD; omega) hK rfl rfl)⟩
    · simp [results, Try.f8, go_sem, hc5]
    · rw [ofK_found hk e1 e2 e3]

/-- suggest.Of, of whatever slice. -/
theorem of_any (sv : Value) (zs : List ByteArray) (t : ByteArray) (w : World) (hreach : zs.length ≤ 17592186044415) (hI : Strs w.heap.size w sv zs) :
    Calls Try.prog 8 #[sv, .string t] w fun e w' => e = .returned (.string (ofS zs t)) ∧ Below w.heap.size w w' := by
  obtain ⟨a, len, cap, rfl⟩ : ∃ a len cap, sv = .slice a len cap := by
    obtain ⟨a, cap, e, _⟩ := hI
    exact ⟨_, _, _, e⟩
  by_cases ht : t.size = 0
  · exact (of_empty a len cap t w ht).mono fun e w' ⟨he, hw⟩ => ⟨he.trans (ret_str (by rw [ofS, if_pos ht])), hw⟩
  · exact (of_some a len cap zs t w hreach (by omega) hI).mono fun e w' ⟨he, hw⟩ => ⟨he.trans (ret_str (by rw [ofS, if_neg ht])), hw⟩
end Go.Proofs.Ytkjfgljalalffaa
