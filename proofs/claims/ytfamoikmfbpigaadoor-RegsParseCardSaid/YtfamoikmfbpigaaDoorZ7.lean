/- The document's Parse. regs.show, regs.kid. limnerref10.show. limnerlaw10.many. regs.Show, the document's Show; plain: how many nodes, how deep. limnerlaw10.again, no, ruled. RegsNode, RegsBack: the walks. limnerref10.Same. -/
import Derived.Test.YtfamoikmfbpigaaDoorZ6
import Derived.Test.YtfamoikmfbpigaaDoorZ4
import Derived.Test.YtfamoikmfbpigaaDoorZ5
import Derived.Test.YtfamoikmfbpigaaDoorZ3
import Derived.Test.YtfamoikmfbpigaaDoorZ2
import Derived.Tactics
import Derived.Tactics2
import Derived.Defers
import Derived.Recover
import Derived.Laws.Pointers
namespace Go.Proofs.YtfamoikmfbpigaaDoor
open Go.RowKit

theorem rest_zero (s : ByteArray) : rest s 0 = s := by unfold rest; exact ByteArray.extract_zero_size
theorem rrows_any (s : ByteArray) (hs : s.size ≤ 90000) : ∀ (f i : Nat) (w : World), i ≤ s.size → s.size - i < f →
    Calls Tryd.prog 28 #[.string s, .int .i64 (i : Int)] w (ResI s w (rowsE f (rest s i)))
  | 0, _, _, _, h => absurd h (by omega)
  | f + 1, i, w, hi, hf => rrows_step (rowsE f) s i w hs hi (fun u n v h => rowsE_bd f u n v h) (fun j W h1 h2 => rrows_any s hs f j W h2 (by omega))
theorem results_nd2 {f : Func} (hf : f.results = #[.cell 2 33, .tmp 3]) (tmps : Array Value) (w : World) (z : Nat) (cs : List Value) (v : Value) (hp : tmps.getD 2 undef = .pointer (some ⟨z, 0, none⟩)) (hq : tmps.getD 3 undef = v) (hz : Blk w z 33 cs) (h6 : cs.length = 6) :
    (results f tmps).run Tryd.prog w = .ok (.tuple #[.agg cs.toArray, v]) w := by
  have hp' : tmps[2]?.getD undef = .pointer (some ⟨z, 0, none⟩) := by simpa using hp
  have hq' : tmps[3]?.getD undef = v := by simpa using hq
  have hl1 := run_loadVar_row w z 33 33 cs.toArray (0, 0) _ hz Tryd.underlying33 rfl (by
    have : (Tryd.prog.info? 33).map (·.size) = some 6 := by kernel_rfl
    rw [this]; simp [h6])
  simp [results, hf, hp', hq', asAddr, hl1]
set_option maxHeartbeats 4000000 in
set_option maxRecDepth 100000 in
theorem rparse_any (s : ByteArray) (w : World) (hM : s.size ≤ 1000000) :
    Calls Tryd.prog 11 #[.string s] w fun e w' => ∃ cs, e = .returned (.tuple #[.agg cs.toArray, .int .i64 ((parseP s).2 : Int)]) ∧ NdAt w.heap.size w' (parseP s).1 cs ∧ Below w.heap.size w w' := by
  have HB2 := hide (at_new w)
  obtain ⟨n0, hn0⟩ : ∃ n, (parseP s).1 = n := ⟨_, rfl⟩
  obtain ⟨e0, he0⟩ : ∃ e, (parseP s).2 = e := ⟨_, rfl⟩
  have hpe : parseP s = (n0, e0) := by rw [← hn0, ← he0]
  rw [hn0, he0]
  clear hn0 he0
  by_cases hm : 200 < s.size
  · have HP := hide (show n0 = .mk 0 noSet [] ∧ e0 = 3 by unfold parseP at hpe; rw [if_pos hm] at hpe; injection hpe with h1 h2; exact ⟨h1.symm, h2.symm⟩)
    clear hpe
    have q1 : (200 : Int) < (s.size : Int) := by omega
    go_enter Tryd.func11, Tryd.ntmps11
    go_wp2
    have hk : Below w.heap.size w (w.alloc (.cells #[.int .i64 0, .int .u64 0, .int .u64 0, .int .u64 0, .int .u64 0, .slice none 0 0] 33)) := (Below.refl _ _).alloc (Nat.le_refl _) _
    refine bodyPost_ret (results_nd2 rfl _ _ w.heap.size (ndL 0 noSet (.slice none 0 0)) _ rfl rfl (Blk.new w 33 [.int .i64 0, .int .u64 0, .int .u64 0, .int .u64 0, .int .u64 0, .slice none 0 0]) rfl) rfl ?_
    obtain ⟨hp1, hp2⟩ := HP.out
    subst hp1 hp2
    exact ⟨_, rfl, NdAt.leaf _ _ 0 noSet_w, hk⟩
  · have q1 : ¬ (200 : Int) < (s.size : Int) := by omega
    have HR := rrows_any s (by omega) (s.size + 1) 0
    rw [rest_zero] at HR
    have HR := hide (fun W => HR W (by omega) (by omega))
    have HPP := hide (show (n0, e0) = (match rowsE (s.size + 1) s with | none => (.mk 0 noSet [], 10) | some (n, t) => if t.size = 0 then (n, 0) else (.mk 0 noSet [], 10)) by rw [← hpe]; unfold parseP; rw [if_neg hm]; rfl)
    clear hpe
    obtain ⟨X, hX⟩ : ∃ X, rowsE (s.size + 1) s = X := ⟨_, rfl⟩
    rw [hX] at HPP HR
    clear hX
    go_enter Tryd.func11, Tryd.ntmps11
    go_wp2_with fail
    refine (HR.out _).mono ?_; rintro e w2 hr
    obtain ⟨hb2, n, k, x0, x1, x2, x3, A9, m9, c9, hn, hr⟩ := hr.cases
    have hbl0 := HB2.out.b1.lt
    have hbl : Below w2.heap.size w2 (w2.alloc (.cells (ndL k [x0, x1, x2, x3] (.slice A9 m9 c9)).toArray 33)) := (Below.refl _ _).alloc (Nat.le_refl _) _
    have HX := hide ((NdX.keep (Q := fun b => w.heap.size < b) (fun b hb _ => Nat.lt_of_lt_of_le hbl0 hb) (Nat.le_refl _) (fun _ _ _ _ h => h) _ _ (NdX.of _ _ hn)).low hbl)
    have HC := hide (Blk.new w2 33 (ndL k [x0, x1, x2, x3] (.slice A9 m9 c9)))
    replace HB2 := hide ((HB2.out.low hb2).low hbl)
    rw [show ((ndL k [x0, x1, x2, x3] (.slice A9 m9 c9))).toArray = #[.int .i64 k, .int .u64 (x0 : Int), .int .u64 (x1 : Int), .int .u64 (x2 : Int), .int .u64 (x3 : Int), .slice A9 m9 c9] from rfl] at HX HC HB2
    clear hb2 hbl hn hbl0
    rcases hr with ⟨hx, rfl⟩ | ⟨j, hx, rfl, hj⟩
    · have HP := hide (show n0 = .mk 0 noSet [] ∧ e0 = 10 by have h := HPP.out; rw [hx] at h; injection h with h1 h2; exact ⟨h1, h2⟩)
      have q2 : ((-1 : Int) != (s.size : Int)) = true := by rw [bne_iff_ne]; omega
      clear hx HPP
      have b0 := HB2.out.b1.cell (i := 0) rfl
      have b1 := HB2.out.b1.cell (i := 1) rfl
      have b2 := HB2.out.b1.cell (i := 2) rfl
      have b3 := HB2.out.b1.cell (i := 3) rfl
      have b4 := HB2.out.b1.cell (i := 4) rfl
      have b5 := HB2.out.b1.cell (i := 5) rfl
      have bf := fun i => HB2.out.b1.frozen i
      go_wp2
      obtain ⟨g1, g2, g3⟩ := HB2.out.end (NdX.leaf _ _ 0 noSet_w)
      refine bodyPost_ret (results_nd2 rfl _ _ w.heap.size (ndL 0 [0, 0, 0, 0] (.slice none 0 0)) _ rfl rfl g1 rfl) rfl ?_
      obtain ⟨hp1, hp2⟩ := HP.out
      subst hp1 hp2
      exact ⟨_, rfl, g2, g3⟩
    · by_cases hjs : j = s.size
      · have HP := hide (show n0 = n ∧ e0 = 0 by have h := HPP.out; rw [hx] at h; simp only at h; rw [if_pos (by rw [rest_size]; omega)] at h; injection h with h1 h2; exact ⟨h1, h2⟩)
        have q2 : ((j : Int) != (s.size : Int)) = false := by rw [hjs]; simp
        clear hx HPP
        subst hjs
        have c0 := HC.out.cell (i := 0) rfl
        have c1 := HC.out.cell (i := 1) rfl
        have c2 := HC.out.cell (i := 2) rfl
        have c3 := HC.out.cell (i := 3) rfl
        have c4 := HC.out.cell (i := 4) rfl
        have c5 := HC.out.cell (i := 5) rfl
        have b0 := HB2.out.b1.cell (i := 0) rfl
        have b1 := HB2.out.b1.cell (i := 1) rfl
        have b2 := HB2.out.b1.cell (i := 2) rfl
        have b3 := HB2.out.b1.cell (i := 3) rfl
        have b4 := HB2.out.b1.cell (i := 4) rfl
        have b5 := HB2.out.b1.cell (i := 5) rfl
        have bf := fun i => HB2.out.b1.frozen i
        go_wp2
        obtain ⟨g1, g2, g3⟩ := HB2.out.end HX.out
        refine bodyPost_ret (results_nd2 rfl _ _ w.heap.size (ndL k [x0, x1, x2, x3] (.slice A9 m9 c9)) _ rfl rfl g1 rfl) rfl ?_
        obtain ⟨hp1, hp2⟩ := HP.out
        subst hp1 hp2
        exact ⟨_, rfl, g2, g3⟩
      · have HP := hide (show n0 = .mk 0 noSet [] ∧ e0 = 10 by have h := HPP.out; rw [hx] at h; simp only at h; rw [if_neg (by rw [rest_size]; omega)] at h; injection h with h1 h2; exact ⟨h1, h2⟩)
        have q2 : ((j : Int) != (s.size : Int)) = true := by rw [bne_iff_ne]; omega
        clear hx HPP
        have b0 := HB2.out.b1.cell (i := 0) rfl
        have b1 := HB2.out.b1.cell (i := 1) rfl
        have b2 := HB2.out.b1.cell (i := 2) rfl
        have b3 := HB2.out.b1.cell (i := 3) rfl
        have b4 := HB2.out.b1.cell (i := 4) rfl
        have b5 := HB2.out.b1.cell (i := 5) rfl
        have bf := fun i => HB2.out.b1.frozen i
        go_wp2
        obtain ⟨g1, g2, g3⟩ := HB2.out.end (NdX.leaf _ _ 0 noSet_w)
        refine bodyPost_ret (results_nd2 rfl _ _ w.heap.size (ndL 0 [0, 0, 0, 0] (.slice none 0 0)) _ rfl rfl g1 rfl) rfl ?_
        obtain ⟨hp1, hp2⟩ := HP.out
        subst hp1 hp2
        exact ⟨_, rfl, g2, g3⟩
end Go.Proofs.YtfamoikmfbpigaaDoor
namespace Go.Proofs.YtfamoikmfbpigaaDoor
open Go.RowKit

theorem par_join (l : List UInt8) : (⟨#[40]⟩ : ByteArray) ++ ⟨l.toArray⟩ ++ ⟨#[41]⟩ = ⟨(40 :: (l ++ [41])).toArray⟩ := by
  rw [show (⟨#[40]⟩ : ByteArray) = ⟨[40].toArray⟩ from rfl, show (⟨#[41]⟩ : ByteArray) = ⟨[41].toArray⟩ from rfl, toArr_app, toArr_app]
  rfl
set_option maxHeartbeats 2000000 in
set_option maxRecDepth 100000 in
theorem kid_any (of : Int) (n : Nd) (cs : List Value) (P : Nat → Prop) (w : World) (hn : NdX P w n cs) (hlen : (showE n).length ≤ 100000000) (hs : ∀ W, Below w.heap.size w W → Calls Tryd.prog 30 #[.agg cs.toArray] W (StrP (showE n) W)) :
    Calls Tryd.prog 44 #[.int .i64 of, .agg cs.toArray] w (StrP (kidE of n (showE n)) w) := by
  obtain ⟨k, x0, x1, x2, x3, A, m, cap, rfl, -, -⟩ := hn.form
  have hk : kdN n = k := by
    cases n with
    | mk k' S L =>
      obtain ⟨_, _, _, _, _, _, _, e, _⟩ := hn.parts
      have := congrArg (·[0]?) e
      simp [ndL] at this
      exact this.symm
  have HB := hide (show Below w.heap.size w (w.alloc (.cells (ndL k [x0, x1, x2, x3] (.slice A m cap)).toArray 27)) from (Below.refl _ _).alloc (Nat.le_refl _) _)
  have HW := hide (show wrapB of n = (k == 3 || (k == 2 && of != 3)) by unfold wrapB; rw [hk])
  have HS := hide hs
  have HJ := hide (par_join (showE n))
  have hz : (⟨(showE n).toArray⟩ : ByteArray).size ≤ 100000000 := by rw [bd_size]; exact hlen
  have HE := hide (show ∀ b, wrapB of n = b → kidE of n (showE n) = if b = true then 40 :: (showE n ++ [41]) else showE n from fun b hb => by unfold kidE; rw [hb])
  obtain ⟨T, hT⟩ : ∃ T, kidE of n (showE n) = T := ⟨_, rfl⟩
  obtain ⟨s, hsn⟩ : ∃ s : ByteArray, ⟨(showE n).toArray⟩ = s := ⟨_, rfl⟩
  have HSN := hide hsn
  have HT := hide hT
  rw [hsn] at hz HJ
  have y1 : ((⟨#[40]⟩ : ByteArray) ++ s).size ≤ 100000001 := by rw [ByteArray.size_append]; have : (⟨#[40]⟩ : ByteArray).size = 1 := rfl; omega
  have y2 : (⟨#[40]⟩ : ByteArray).size = 1 := rfl
  have y3 : (⟨#[41]⟩ : ByteArray).size = 1 := rfl
  have HC := hide (show Calls Tryd.prog 30 #[.agg #[.int .i64 k, .int .u64 (x0 : Int), .int .u64 (x1 : Int), .int .u64 (x2 : Int), .int .u64 (x3 : Int), .slice A m cap]] (w.alloc (.cells #[.int .i64 k, .int .u64 (x0 : Int), .int .u64 (x1 : Int), .int .u64 (x2 : Int), .int .u64 (x3 : Int), .slice A m cap] 27)) fun e w' => e = .returned (.string s) ∧ Below (w.alloc (.cells #[.int .i64 k, .int .u64 (x0 : Int), .int .u64 (x1 : Int), .int .u64 (x2 : Int), .int .u64 (x3 : Int), .slice A m cap] 27)).heap.size (w.alloc (.cells #[.int .i64 k, .int .u64 (x0 : Int), .int .u64 (x1 : Int), .int .u64 (x2 : Int), .int .u64 (x3 : Int), .slice A m cap] 27)) w' from by rw [← hsn]; exact hs _ HB.out)
  rw [hT] at HE ⊢
  clear hs hT hsn hn hk hlen
  rw [show (ndL k [x0, x1, x2, x3] (.slice A m cap)).toArray = #[.int .i64 k, .int .u64 (x0 : Int), .int .u64 (x1 : Int), .int .u64 (x2 : Int), .int .u64 (x3 : Int), .slice A m cap] from rfl]
  cases h3 : (k == 3) with
  | true =>
    have HR := hide (HE.out true (by rw [HW.out, h3]; rfl))
    go_enter Tryd.func44, Tryd.ntmps44
    go_wp2_with fail
    refine HC.out.mono ?_; rintro e w1 ⟨rfl, hb1⟩
    go_wp2
    go_ret
    exact StrP.mk (by rw [HR.out]; exact HJ.out) rfl (HB.out.trans (hb1.mono HB.out.size))
  | false =>
    cases h2 : (k == 2) with
    | false =>
      have HR := hide (HE.out false (by rw [HW.out, h3, h2]; rfl))
      go_enter Tryd.func44, Tryd.ntmps44
      go_wp2_with fail
      refine HC.out.mono ?_; rintro e w1 ⟨rfl, hb1⟩
      go_wp2
      go_ret
      exact StrP.mk (by rw [HR.out]; exact HSN.out.symm) rfl (HB.out.trans (hb1.mono HB.out.size))
    | true =>
      cases ho : (of != 3) with
      | true =>
        have HR := hide (HE.out true (by rw [HW.out, h3, h2, ho]; rfl))
        go_enter Tryd.func44, Tryd.ntmps44
        go_wp2_with fail
        refine HC.out.mono ?_; rintro e w1 ⟨rfl, hb1⟩
        go_wp2
        go_ret
        exact StrP.mk (by rw [HR.out]; exact HJ.out) rfl (HB.out.trans (hb1.mono HB.out.size))
      | false =>
        have HR := hide (HE.out false (by rw [HW.out, h3, h2, ho]; rfl))
        go_enter Tryd.func44, Tryd.ntmps44
        go_wp2_with fail
        refine HC.out.mono ?_; rintro e w1 ⟨rfl, hb1⟩
        go_wp2
        go_ret
        exact StrP.mk (by rw [HR.out]; exact HSN.out.symm) rfl (HB.out.trans (hb1.mono HB.out.size))
/-- What show's box and row hold. -/
structure ShS (w W : World) (k : Int) (S : List Nat) (sv v : Value) (T : List (List UInt8)) : Prop where
  box : Blk W w.heap.size 27 (ndL k S sv)
  row : SRow W (w.heap.size + 1) v (T.map fun l => ⟨l.toArray⟩)
  below : Below w.heap.size w W
theorem ShS.low {w W V : World} {k : Int} {S : List Nat} {sv v : Value} {T : List (List UInt8)} (h : ShS w W k S sv v T) (hb : Below W.heap.size W V) : ShS w V k S sv v T :=
  ⟨h.box.below hb, h.row.below hb, h.below.trans (hb.mono h.below.size)⟩
theorem ShS.app {w W V : World} {k : Int} {S : List Nat} {sv v v' : Value} {T : List (List UInt8)} {p : List UInt8} (h : ShS w W k S sv v T) (hg : W.grownBy V v.ownBlock) (ho : SRow V (w.heap.size + 1) v' ((T ++ [p]).map fun l => ⟨l.toArray⟩)) : ShS w V k S sv v' (T ++ [p]) := by
  have hr : ∀ q, v.ownBlock = some q → w.heap.size + 1 ≤ q := fun q hq => (World.ownsRow.lt h.row q hq).1
  exact ⟨(hg.block _ h.box.lt (fun e => by have := hr _ e.symm; omega)).trans h.box, ho, h.below.grown hg h.below.size (fun k e => by have := hr k e; omega)⟩
theorem len_sz : ∀ L : List Nd, L.length ≤ szL L
  | [] => Nat.le_refl _
  | x :: l => by
    have h1 := len_sz l
    have h2 : 1 ≤ szN x := by cases x; unfold szN; omega
    rw [szL, List.length_cons]; omega
theorem kids_step {of : Int} {L : List Nd} {j : Nat} {x : Nd} (h : L[j]? = some x) : kidsE of (L.take (j + 1)) = kidsE of (L.take j) ++ [kidE of x (showE x)] := by
  rw [List.take_add_one, h, kidsE_map, kidsE_map, List.map_append]; rfl
theorem bytes_map (T : List (List UInt8)) : (T.map fun l => (⟨l.toArray⟩ : ByteArray)).map (·.data.toList) = T := by simp [List.map_map, Function.comp_def]
/-- strings.Join of a row of one's own. -/
theorem join_row {w : World} {B : Nat} {A : Option Addr} {n c : Nat} {T : List (List UInt8)} (h : SRow w B (.slice A n c) (T.map fun l => ⟨l.toArray⟩)) (hn : T.length = n) (hnc : n ≤ c) (h0 : 0 < n) (hn2 : n ≤ 1000000) (sep : List UInt8) (hl : (Go.Lib.join T sep).length ≤ 100000000) :
    Calls Tryd.prog 46 #[.slice A n c, .string ⟨sep.toArray⟩] w fun e w' => e = .returned (.string ⟨(Go.Lib.join T sep).toArray⟩) ∧ Below w.heap.size w w' := by
  obtain ⟨p0, hp0⟩ : ∃ p, T[0]? = some p := ⟨_, List.getElem?_eq_getElem (by omega)⟩
  obtain ⟨g, rfl, hg1, hg2, -⟩ := h.get (j := 0) (s := ⟨p0.toArray⟩) (by rw [List.getElem?_map, hp0]; rfl)
  have HJ := Tryd.strings_Join g 0 c (T.map fun l => (⟨l.toArray⟩ : ByteArray)) ⟨sep.toArray⟩ w (fun j x hx => by
      rw [Nat.zero_add]
      obtain ⟨g', e1, _, _, e4⟩ := h.get hx
      injection e1 with e1; injection e1 with e1; subst e1
      exact e4) hg2 (by rw [List.length_map, hn]; omega) (by rw [List.length_map, hn]; exact hnc)
    (by rw [bytes_map, show (⟨sep.toArray⟩ : ByteArray).data.toList = sep from rfl]; omega)
  rw [bytes_map, show (⟨sep.toArray⟩ : ByteArray).data.toList = sep from rfl, List.length_map, hn] at HJ
  exact HJ
set_option maxHeartbeats 8000000 in
set_option maxRecDepth 100000 in
theorem show_any : ∀ (f : Nat) (n : Nd) (cs : List Value) (P : Nat → Prop) (w : World), szN n < f → szN n ≤ 2000 → rmayE n = true → NdX P w n cs →
    Calls Tryd.prog 30 #[.agg cs.toArray] w (StrP (showE n) w)
  | 0, _, _, _, _, hf, _, _, _ => absurd hf (by omega)
  | f + 1, .mk k S L, cs, P, w, hf, hsz, hmay, hn => by
    obtain ⟨x0, x1, x2, x3, A, cap, rfl, rfl, hw, hc, hcm, hkids⟩ := hn.parts
    have IH := hide (fun (n : Nd) (cs : List Value) (W : World) (h1 : szN n < f) (h0 : szN n ≤ 2000) (hm : rmayE n = true) (h2 : NdX P W n cs) => show_any f n cs P W h1 h0 hm h2)
    have HW4 := hide hw
    have HK := hide hkids
    have HMY := hide hmay
    obtain ⟨m, hm0⟩ : ∃ m, L.length = m := ⟨_, rfl⟩
    have HM := hide hm0
    have HSL := hide (show szL L < 2000 by unfold szN at hsz; omega)
    have HF := hide (show szL L < f by unfold szN at hf; omega)
    have hml : m ≤ 2000 := by have h1 := len_sz L; have h2 := HSL.out; omega
    have HSE := hide (show showE (.mk k [x0, x1, x2, x3] L) = _ from by rw [showE])
    have HSZ := hide (show (showE (.mk k [x0, x1, x2, x3] L)).length ≤ 10000000 from by have := show_len (.mk k [x0, x1, x2, x3] L); omega)
    rw [hm0] at hc ⊢
    have HB0 := hide (show ShS w (w.alloc (.cells (ndL k [x0, x1, x2, x3] (.slice A m cap)).toArray 27)) k [x0, x1, x2, x3] (.slice A m cap) (.slice none 0 0) [] from ⟨Blk.new _ _ _, SRow.nil _ _, (Below.refl _ _).alloc (Nat.le_refl _) _⟩)
    obtain ⟨i0, hinf, hi0, hi1, hi2⟩ := info_strS_parts
    clear hn hkids hw hf hm0 hsz hmay
    unfold maxLen at hcm
    rw [show (ndL k [x0, x1, x2, x3] (.slice A m cap)).toArray = #[.int .i64 k, .int .u64 (x0 : Int), .int .u64 (x1 : Int), .int .u64 (x2 : Int), .int .u64 (x3 : Int), .slice A m cap] from rfl]
    obtain ⟨T, hT⟩ : ∃ T, showE (.mk k [x0, x1, x2, x3] L) = T := ⟨_, rfl⟩
    rw [hT] at HSE HSZ ⊢
    clear hT
    go_enter Tryd.func30, Tryd.ntmps30
    go_wp2
    rw [show w.alloc (.cells #[.int .i64 k, .int .u64 (x0 : Int), .int .u64 (x1 : Int), .int .u64 (x2 : Int), .int .u64 (x3 : Int), .slice A m cap] 27) = w.alloc (.cells (ndL k [x0, x1, x2, x3] (.slice A m cap)).toArray 27) from rfl]
    obtain ⟨W0, hW0⟩ : ∃ W, w.alloc (.cells (ndL k [x0, x1, x2, x3] (.slice A m cap)).toArray 27) = W := ⟨_, rfl⟩
    rw [hW0] at HB0 ⊢
    clear hW0
    go_loopw [3, 9] (fun v iv wr => ∃ j : Nat, iv = .int .i64 j ∧ j ≤ m ∧ Hid (ShS w wr k [x0, x1, x2, x3] (.slice A m cap) v (kidsE k (L.take j)))) (fun _ iv _ => m - (intOf iv).toNat)
    case atStart => exact ⟨0, rfl, by omega, hide (by rw [List.take_zero, kidsE]; exact HB0.out)⟩
    case round =>
      clear HB0
      obtain ⟨j, rfl, hj, HB⟩ := hrel
      have a0 := HB.out.box.cell (i := 0) rfl
      by_cases hlt : j < m
      · obtain ⟨x, hx⟩ : ∃ x, L[j]? = some x := ⟨_, List.getElem?_eq_getElem (by rw [HM.out]; exact hlt)⟩
        obtain ⟨b, o, cx, rfl, hb, -, hcx, hnx⟩ := HK.out.get j x hx
        obtain ⟨kx, u0, u1, u2, u3', Ax, mx, capx, rfl, -, -⟩ := hnx.form
        have HCX := hide (fun (W : World) (hW : Below w.heap.size w W) i u (hu : (ndL kx [u0, u1, u2, u3'] (.slice Ax mx capx))[i]? = some u) => show W.cell? ⟨b, o + j * 6 + i, none⟩ = some u from (hW.cell (p := ⟨b, o + j * 6 + i, none⟩) hb.2).trans (by have := hcx i u hu; rw [Nat.zero_add] at this; exact this))
        have hsx0 := szL_at hx
        have hsx : szN x < f := Nat.lt_of_le_of_lt hsx0 HF.out
        have hsx1 : szN x ≤ 2000 := by have := HSL.out; omega
        have hmx : rmayE x = true := by
          have h1 := HMY.out
          rw [rmayE, rmayL_all, Bool.and_eq_true] at h1
          exact List.all_eq_true.1 h1.2 x (List.mem_of_getElem? hx)
        have hlx : (showE x).length ≤ 10000000 := by have := show_len x; omega
        have HI := hide (fun (W : World) (hW : Below w.heap.size w W) => kid_any k x _ P W (hnx.low hW) (by omega) (fun V hV => IH.out x _ V hsx hsx1 hmx (hnx.low (hW.trans (hV.mono hW.size)))))
        have HST := hide (kids_step (of := k) hx)
        have HLN := hide (show (kidsE k (L.take j)).length = j by rw [kidsE_map, List.length_map, List.length_take, HM.out]; omega)
        obtain ⟨tx, htx⟩ : ∃ t, kidE k x (showE x) = t := ⟨_, rfl⟩
        rw [htx] at HI HST
        clear hx hcx hnx hsx hsx0 hsx1 htx hmx hlx
        have c0 : wr.cell? ⟨b, o + j * 6, none⟩ = some (.int .i64 kx) := HCX.out wr HB.out.below 0 _ rfl
        have c1 := HCX.out wr HB.out.below 1 _ rfl
        have c2 := HCX.out wr HB.out.below 2 _ rfl
        have c3 := HCX.out wr HB.out.below 3 _ rfl
        have c4 := HCX.out wr HB.out.below 4 _ rfl
        have c5 := HCX.out wr HB.out.below 5 _ rfl
        have hj0 : (0 : Int) ≤ (j : Int) := by omega
        have hj1 : (j : Int) < (m : Int) := by omega
        have hbx : Below wr.heap.size wr (wr.alloc (.cells #[.int .i64 kx, .int .u64 (u0 : Int), .int .u64 (u1 : Int), .int .u64 (u2 : Int), .int .u64 (u3' : Int), .slice Ax mx capx] 27)) := (Below.refl _ _).alloc (Nat.le_refl _) _
        have HBX := hide (HB.out.low hbx)
        have d0 := HBX.out.box.cell (i := 0) rfl
        clear hbx
        go_wp2_with fail
        refine (HI.out _ HBX.out.below).mono ?_; rintro e w9 ⟨rfl, hb9⟩
        have HB9 := hide (HBX.out.low hb9)
        clear hb9 HB HBX HI a0 c0 c1 c2 c3 c4 c5 d0
        obtain ⟨s, hs⟩ : ∃ s : ByteArray, ⟨tx.toArray⟩ = s := ⟨_, rfl⟩
        have HSS := hide hs
        have hRl : ((kidsE k (L.take j)).map fun l => (⟨l.toArray⟩ : ByteArray)).length ≤ 2000 := by rw [List.length_map, HLN.out]; omega
        rw [hs]
        clear hs
        have hbl : Below w9.heap.size w9 (w9.alloc (.cells #[.string s] 9)) := (Below.refl _ _).alloc (Nat.le_refl _) _
        have HBa := hide (HB9.out.low hbl)
        have hzz := HBa.out.box.lt
        have hrow := HBa.out.row
        clear hbl
        go_wp2_with (at_builtin; refine wpList_append_own _ rfl _ _ 50 rfl (w.heap.size + 1) 9 i0 _ 1 16 Tryd.underlying50 hinf hi0 hi1 hi2 (by rfl) (by decide) u3 _ _ rfl hrow ⟨w9.heap.size, 0, none⟩ 1 1 [.string s] rfl rfl (one_strS w9 s) (by simp [Value.oneCell']) (by unfold maxLen; omega) (by omega) hzz ?_; intro v' w6 hown1 hgrow1 _)
        have HB6 := hide (HBa.out.app (p := tx) hgrow1 (by have h9 := SRow.app hown1; rw [List.map_append]; rw [← HSS.out] at h9; exact h9))
        clear hown1 hgrow1 HBa hrow
        go_wp2
        go_roundw
        case rel => exact ⟨j + 1, by go_num, by omega, hide (by rw [HST.out]; exact HB6.out)⟩
        case measure => simp [intOf]; omega
      · obtain rfl : j = m := by omega
        have hLL : L.take j = L := List.take_of_length_le (by rw [HM.out]; exact Nat.le_refl _)
        rw [hLL] at HB
        have HLN := hide (show (kidsE k L).length = j by rw [kidsE_map, List.length_map, HM.out])
        clear hLL
        have a1 := HB.out.box.cell (i := 1) rfl
        have a2 := HB.out.box.cell (i := 2) rfl
        have a3 := HB.out.box.cell (i := 3) rfl
        have a4 := HB.out.box.cell (i := 4) rfl
        obtain ⟨A9, c9, rfl, hc9, hm9⟩ := HB.out.row.form (n := j) (by rw [List.length_map, HLN.out])
        by_cases h1 : k = 1
        · subst h1
          have HR := hide (show T = spansE [x0, x1, x2, x3] by rw [HSE.out, if_pos rfl])
          go_wp2_with fail
          refine (spans_any x0 x1 x2 x3 wr HW4.out).mono ?_; rintro e w9 ⟨rfl, hb9⟩
          go_wp2
          go_ret
          exact StrP.mk (by rw [HR.out]) rfl (HB.out.below.trans (hb9.mono HB.out.below.size))
        have q1 : (k == 1) = false := by simpa using h1
        have hsh : shapeB k [x0, x1, x2, x3] j = true := by
          have h1 := HMY.out
          rw [rmayE, Bool.and_eq_true, HM.out] at h1
          exact h1.1
        have hcnt : cntB k j = true := by
          rw [shape_cnt, Bool.and_eq_true] at hsh
          exact hsh.1
        clear hsh
        by_cases h2 : k = 2
        · subst h2
          have hj2 : 2 ≤ j := by rw [cnt_23 (by omega)] at hcnt; exact of_decide_eq_true hcnt
          have HR := hide (show T = Go.Lib.join (kidsE 2 L) [] by rw [HSE.out, if_neg (by decide), if_pos rfl, join_flat])
          have HJ := hide (join_row HB.out.row HLN.out hc9 (by omega) (by omega) [] (by rw [← HR.out]; have := HSZ.out; omega))
          clear hcnt h1
          go_wp2_with fail
          refine HJ.out.mono ?_; rintro e w9 ⟨rfl, hb9⟩
          go_wp2
          go_ret
          exact StrP.mk (by rw [HR.out]) rfl (HB.out.below.trans (hb9.mono HB.out.below.size))
        have q2 : (k == 2) = false := by simpa using h2
        by_cases h3 : k = 3
        · subst h3
          have hj2 : 2 ≤ j := by rw [cnt_23 (by omega)] at hcnt; exact of_decide_eq_true hcnt
          have HR := hide (show T = Go.Lib.join (kidsE 3 L) [124] by rw [HSE.out, if_neg (by decide), if_neg (by decide), if_pos rfl])
          have HJ := hide (join_row HB.out.row HLN.out hc9 (by omega) (by omega) [124] (by rw [← HR.out]; have := HSZ.out; omega))
          clear hcnt h1 h2
          go_wp2_with fail
          refine HJ.out.mono ?_; rintro e w9 ⟨rfl, hb9⟩
          go_wp2
          go_ret
          exact StrP.mk (by rw [HR.out]) rfl (HB.out.below.trans (hb9.mono HB.out.below.size))
        have q3 : (k == 3) = false := by simpa using h3
        by_cases h4 : k = 4
        · subst h4
          have hj1 : j = 1 := by rw [cnt_46 (by omega)] at hcnt; simpa using hcnt
          obtain ⟨t, ht⟩ : ∃ t, kidsE 4 L = [t] := by
            have h9 := HLN.out
            rw [hj1] at h9
            match hk : kidsE 4 L, h9 with
            | [t], _ => exact ⟨t, rfl⟩
          have HR := hide (show T = t ++ [42] by rw [HSE.out, if_neg (by decide), if_neg (by decide), if_neg (by decide), if_pos rfl, ht]; simp)
          obtain ⟨g, rfl, hg1, hg2, hcg⟩ := HB.out.row.get (j := 0) (s := ⟨t.toArray⟩) (by rw [ht]; rfl)
          have HJ := hide (show (⟨t.toArray⟩ : ByteArray) ++ ⟨#[42]⟩ = ⟨(t ++ [42]).toArray⟩ by rw [show (⟨#[42]⟩ : ByteArray) = ⟨[42].toArray⟩ from rfl, toArr_app])
          have hz : (⟨t.toArray⟩ : ByteArray).size ≤ 10000000 := by rw [bd_size]; have h9 := HSZ.out; rw [HR.out, List.length_append] at h9; omega
          obtain ⟨s, hs⟩ : ∃ s : ByteArray, ⟨t.toArray⟩ = s := ⟨_, rfl⟩
          rw [hs] at hcg hz HJ
          have y3 : (⟨#[42]⟩ : ByteArray).size = 1 := rfl
          have hj0 : (0 : Int) < (j : Int) := by omega
          clear hs hcnt ht h1 h2 h3
          have HJ1 := hide hj1
          clear hj1
          go_wp2
          go_ret
          exact StrP.mk (by rw [HR.out]; exact HJ.out) rfl HB.out.below
        have q4 : (k == 4) = false := by simpa using h4
        by_cases h5 : k = 5
        · subst h5
          have hj1 : j = 1 := by rw [cnt_46 (by omega)] at hcnt; simpa using hcnt
          obtain ⟨t, ht⟩ : ∃ t, kidsE 5 L = [t] := by
            have h9 := HLN.out
            rw [hj1] at h9
            match hk : kidsE 5 L, h9 with
            | [t], _ => exact ⟨t, rfl⟩
          have HR := hide (show T = t ++ [43] by rw [HSE.out, if_neg (by decide), if_neg (by decide), if_neg (by decide), if_neg (by decide), if_pos rfl, ht]; simp)
          obtain ⟨g, rfl, hg1, hg2, hcg⟩ := HB.out.row.get (j := 0) (s := ⟨t.toArray⟩) (by rw [ht]; rfl)
          have HJ := hide (show (⟨t.toArray⟩ : ByteArray) ++ ⟨#[43]⟩ = ⟨(t ++ [43]).toArray⟩ by rw [show (⟨#[43]⟩ : ByteArray) = ⟨[43].toArray⟩ from rfl, toArr_app])
          have hz : (⟨t.toArray⟩ : ByteArray).size ≤ 10000000 := by rw [bd_size]; have h9 := HSZ.out; rw [HR.out, List.length_append] at h9; omega
          obtain ⟨s, hs⟩ : ∃ s : ByteArray, ⟨t.toArray⟩ = s := ⟨_, rfl⟩
          rw [hs] at hcg hz HJ
          have y3 : (⟨#[43]⟩ : ByteArray).size = 1 := rfl
          have hj0 : (0 : Int) < (j : Int) := by omega
          clear hs hcnt ht h1 h2 h3 h4
          have HJ1 := hide hj1
          clear hj1
          go_wp2
          go_ret
          exact StrP.mk (by rw [HR.out]; exact HJ.out) rfl HB.out.below
        have q5 : (k == 5) = false := by simpa using h5
        by_cases h6 : k = 6
        · subst h6
          have hj1 : j = 1 := by rw [cnt_46 (by omega)] at hcnt; simpa using hcnt
          obtain ⟨t, ht⟩ : ∃ t, kidsE 6 L = [t] := by
            have h9 := HLN.out
            rw [hj1] at h9
            match hk : kidsE 6 L, h9 with
            | [t], _ => exact ⟨t, rfl⟩
          have HR := hide (show T = t ++ [63] by rw [HSE.out, if_neg (by decide), if_neg (by decide), if_neg (by decide), if_neg (by decide), if_neg (by decide), if_pos rfl, ht]; simp)
          obtain ⟨g, rfl, hg1, hg2, hcg⟩ := HB.out.row.get (j := 0) (s := ⟨t.toArray⟩) (by rw [ht]; rfl)
          have HJ := hide (show (⟨t.toArray⟩ : ByteArray) ++ ⟨#[63]⟩ = ⟨(t ++ [63]).toArray⟩ by rw [show (⟨#[63]⟩ : ByteArray) = ⟨[63].toArray⟩ from rfl, toArr_app])
          have hz : (⟨t.toArray⟩ : ByteArray).size ≤ 10000000 := by rw [bd_size]; have h9 := HSZ.out; rw [HR.out, List.length_append] at h9; omega
          obtain ⟨s, hs⟩ : ∃ s : ByteArray, ⟨t.toArray⟩ = s := ⟨_, rfl⟩
          rw [hs] at hcg hz HJ
          have y3 : (⟨#[63]⟩ : ByteArray).size = 1 := rfl
          have hj0 : (0 : Int) < (j : Int) := by omega
          clear hs hcnt ht h1 h2 h3 h4 h5
          have HJ1 := hide hj1
          clear hj1
          go_wp2
          go_ret
          exact StrP.mk (by rw [HR.out]; exact HJ.out) rfl HB.out.below
        have q6 : (k == 6) = false := by simpa using h6
        have HR := hide (show T = [40, 41] by rw [HSE.out, if_neg h1, if_neg h2, if_neg h3, if_neg h4, if_neg h5, if_neg h6])
        clear hcnt h1 h2 h3 h4 h5 h6
        go_wp2
        go_ret
        exact StrP.mk (by rw [HR.out]) rfl HB.out.below
end Go.Proofs.YtfamoikmfbpigaaDoor
namespace Go.Proofs.YtfamoikmfbpigaaDoor
open Go.RowKit

def accR (k : Int) (T : List (List UInt8)) : List UInt8 := if k = 3 then Go.Lib.join T [124] else T.flatten
theorem join_snoc (sep : List UInt8) : ∀ (T : List (List UInt8)) (t : List UInt8), T ≠ [] → Go.Lib.join (T ++ [t]) sep = Go.Lib.join T sep ++ (sep ++ t)
  | [], _, h => absurd rfl h
  | x :: l, t, _ => by
    rw [List.cons_append, Go.Lib.join_cons, Go.Lib.join_cons, List.append_assoc]
    unfold Go.Lib.joinTail
    simp
theorem acc_0 (k : Int) : accR k [] = [] := by unfold accR; split <;> rfl
theorem acc_no {k : Int} (h : k ≠ 3) (T : List (List UInt8)) (t : List UInt8) : accR k (T ++ [t]) = accR k T ++ t := by unfold accR; rw [if_neg h, if_neg h]; simp
theorem acc_first {k : Int} (t : List UInt8) : accR k ([] ++ [t]) = accR k [] ++ t := by
  unfold accR
  split
  · simp [Go.Lib.join_one, Go.Lib.join_nil]
  · simp
theorem acc_bar {k : Int} (h : k = 3) (T : List (List UInt8)) (t : List UInt8) (hT : T ≠ []) : accR k (T ++ [t]) = accR k T ++ (124 :: t) := by
  unfold accR; rw [if_pos h, if_pos h, join_snoc _ _ _ hT]; rfl
theorem szL_take : ∀ (L : List Nd) (j : Nat), szL (L.take j) ≤ szL L
  | [], j => by simp
  | x :: l, 0 => by simp [szL]
  | x :: l, j + 1 => by rw [List.take_succ_cons, szL, szL]; have := szL_take l j; omega
theorem acc_len (k of : Int) (L : List Nd) : (accR k (kidsE of L)).length ≤ 2400 * szL L := by
  have h1 := kids_len of L
  unfold accR
  split
  · have h4 : (Go.Lib.join (kidsE of L) [124]).length ≤ ((kidsE of L).map fun x => x.length + 1).sum := join_len [124] (kidsE of L)
    omega
  · have := flat_le (kidsE of L); omega
theorem txt_app (a b : List UInt8) (s t : ByteArray) (hs : (⟨a.toArray⟩ : ByteArray) = s) (ht : (⟨b.toArray⟩ : ByteArray) = t) : (⟨(a ++ b).toArray⟩ : ByteArray) = s ++ t := by rw [← hs, ← ht, toArr_app]
theorem bar_app (b : List UInt8) (t : ByteArray) (ht : (⟨b.toArray⟩ : ByteArray) = t) : (⟨(124 :: b).toArray⟩ : ByteArray) = ⟨#[124]⟩ ++ t := by rw [← ht, show (⟨#[124]⟩ : ByteArray) = ⟨[124].toArray⟩ from rfl, toArr_app]; rfl
def RsS (w W : World) (k : Int) (S : List Nat) (sv : Value) : Prop := Blk W w.heap.size 33 (ndL k S sv) ∧ Below w.heap.size w W
theorem RsS.low {w W V : World} {k : Int} {S : List Nat} {sv : Value} (h : RsS w W k S sv) (hb : Below W.heap.size W V) : RsS w V k S sv := ⟨h.1.below hb, h.2.trans (hb.mono h.2.size)⟩
set_option maxHeartbeats 16000000 in
set_option maxRecDepth 100000 in
theorem rshow_any : ∀ (f : Nat) (n : Nd) (cs : List Value) (P : Nat → Prop) (w : World), szN n < f → szN n ≤ 2000 → rmayE n = true → NdX P w n cs →
    Calls Tryd.prog 33 #[.agg cs.toArray] w (StrP (showE n) w)
  | 0, _, _, _, _, hf, _, _, _ => absurd hf (by omega)
  | f + 1, .mk k S L, cs, P, w, hf, hsz, hmay, hn => by
    obtain ⟨x0, x1, x2, x3, A, cap, rfl, rfl, hw, hc, hcm, hkids⟩ := hn.parts
    have IH := hide (fun (n : Nd) (cs : List Value) (W : World) (h1 : szN n < f) (h0 : szN n ≤ 2000) (hm : rmayE n = true) (h2 : NdX P W n cs) => rshow_any f n cs P W h1 h0 hm h2)
    have HW4 := hide hw
    have HK := hide hkids
    have HMY := hide hmay
    obtain ⟨m, hm0⟩ : ∃ m, L.length = m := ⟨_, rfl⟩
    have HM := hide hm0
    have HSL := hide (show szL L < 2000 by unfold szN at hsz; omega)
    have HF := hide (show szL L < f by unfold szN at hf; omega)
    have hml : m ≤ 2000 := by have h1 := len_sz L; have h2 := HSL.out; omega
    have HSE := hide (show showE (.mk k [x0, x1, x2, x3] L) = _ from by rw [showE])
    rw [hm0] at hc ⊢
    have HB0 := hide (show RsS w (w.alloc (.cells (ndL k [x0, x1, x2, x3] (.slice A m cap)).toArray 33)) k [x0, x1, x2, x3] (.slice A m cap) from ⟨Blk.new _ _ _, (Below.refl _ _).alloc (Nat.le_refl _) _⟩)
    clear hn hkids hw hf hm0 hsz hmay
    unfold maxLen at hcm
    rw [show (ndL k [x0, x1, x2, x3] (.slice A m cap)).toArray = #[.int .i64 k, .int .u64 (x0 : Int), .int .u64 (x1 : Int), .int .u64 (x2 : Int), .int .u64 (x3 : Int), .slice A m cap] from rfl]
    obtain ⟨T, hT⟩ : ∃ T, showE (.mk k [x0, x1, x2, x3] L) = T := ⟨_, rfl⟩
    rw [hT] at HSE ⊢
    clear hT
    by_cases h0 : k = 0
    · subst h0
      have HR := hide (show T = [40, 41] by rw [HSE.out, if_neg (by decide), if_neg (by decide), if_neg (by decide), if_neg (by decide), if_neg (by decide), if_neg (by decide)])
      go_enter Tryd.func33, Tryd.ntmps33
      go_wp2
      go_ret
      exact StrP.mk (by rw [HR.out]) rfl HB0.out.2
    have q0 : (k == 0) = false := by simpa using h0
    by_cases h1 : k = 1
    · subst h1
      have HR := hide (show T = spansE [x0, x1, x2, x3] by rw [HSE.out, if_pos rfl])
      go_enter Tryd.func33, Tryd.ntmps33
      go_wp2_with fail
      refine (rset_any x0 x1 x2 x3 _ HW4.out).mono ?_; rintro e w9 ⟨rfl, hb9⟩
      go_wp2
      go_ret
      exact StrP.mk (by rw [HR.out]) rfl (HB0.out.2.trans (hb9.mono HB0.out.2.size))
    have q1 : (k == 1) = false := by simpa using h1
    have HSE2 := hide (show T = if k = 4 then accR k (kidsE k L) ++ [42] else if k = 5 then accR k (kidsE k L) ++ [43] else if k = 6 then accR k (kidsE k L) ++ [63] else accR k (kidsE k L) by
      have hk : 2 ≤ k ∧ k ≤ 6 := by
        have h9 := HMY.out
        rw [rmayE, Bool.and_eq_true, shape_cnt, Bool.and_eq_true] at h9
        have h8 := h9.1.1
        have : 0 ≤ k ∧ k ≤ 6 := by
          by_cases hh : 0 ≤ k ∧ k ≤ 6
          · exact hh
          · rw [cnt_not hh] at h8; cases h8
        omega
      rw [HSE.out, if_neg h1]
      unfold accR
      by_cases h2 : k = 2
      · subst h2; rfl
      by_cases h3 : k = 3
      · subst h3; rfl
      rw [if_neg h2, if_neg h3]
      by_cases h4 : k = 4
      · subst h4; rfl
      by_cases h5 : k = 5
      · subst h5; rfl
      · obtain rfl : k = 6 := by omega
        rfl)
    clear HSE h0 h1
    go_enter Tryd.func33, Tryd.ntmps33
    go_wp2
    rw [show w.alloc (.cells #[.int .i64 k, .int .u64 (x0 : Int), .int .u64 (x1 : Int), .int .u64 (x2 : Int), .int .u64 (x3 : Int), .slice A m cap] 33) = w.alloc (.cells (ndL k [x0, x1, x2, x3] (.slice A m cap)).toArray 33) from rfl]
    obtain ⟨W0, hW0⟩ : ∃ W, w.alloc (.cells (ndL k [x0, x1, x2, x3] (.slice A m cap)).toArray 33) = W := ⟨_, rfl⟩
    rw [hW0] at HB0 ⊢
    clear hW0
    go_loopw [3, 4] (fun sv iv wr => ∃ (j : Nat) (s : ByteArray), iv = .int .i64 j ∧ sv = .string s ∧ j ≤ m ∧ s.size ≤ 5000000 ∧ Hid ((⟨(accR k (kidsE k (L.take j))).toArray⟩ : ByteArray) = s) ∧ Hid (RsS w wr k [x0, x1, x2, x3] (.slice A m cap))) (fun _ iv _ => m - (intOf iv).toNat)
    case atStart => exact ⟨0, ⟨#[]⟩, rfl, rfl, by omega, by simp [ByteArray.size], hide (by rw [List.take_zero, kidsE, acc_0]), HB0⟩
    case round =>
      clear HB0
      obtain ⟨j, s, rfl, rfl, hj, hsz, HT, HB⟩ := hrel
      have a0 := HB.out.1.cell (i := 0) rfl
      have a5 := HB.out.1.cell (i := 5) rfl
      by_cases hlt : j < m
      · obtain ⟨x, hx⟩ : ∃ x, L[j]? = some x := ⟨_, List.getElem?_eq_getElem (by rw [HM.out]; exact hlt)⟩
        obtain ⟨b, o, cx, rfl, hb, -, hcx, hnx⟩ := HK.out.get j x hx
        obtain ⟨kx, u0, u1, u2, u3', Ax, mx, capx, rfl, -, -⟩ := hnx.form
        have HCX := hide (fun (W : World) (hW : Below w.heap.size w W) i u (hu : (ndL kx [u0, u1, u2, u3'] (.slice Ax mx capx))[i]? = some u) => show W.cell? ⟨b, o + j * 6 + i, none⟩ = some u from (hW.cell (p := ⟨b, o + j * 6 + i, none⟩) hb.2).trans (by have := hcx i u hu; rw [Nat.zero_add] at this; exact this))
        have hsx0 := szL_at hx
        have hsx : szN x < f := Nat.lt_of_le_of_lt hsx0 HF.out
        have hsx1 : szN x ≤ 2000 := by have := HSL.out; omega
        have hmx : rmayE x = true := by
          have h1 := HMY.out
          rw [rmayE, rmayL_all, Bool.and_eq_true] at h1
          exact List.all_eq_true.1 h1.2 x (List.mem_of_getElem? hx)
        have hlx : (showE x).length ≤ 5000000 := by have := show_len x; omega
        have hkx : kdN x = kx := by
          cases x with
          | mk k' S' L' =>
            obtain ⟨_, _, _, _, _, _, _, e, _⟩ := hnx.parts
            have := congrArg (·[0]?) e
            simp [ndL] at this
            exact this.symm
        have HWR := hide (show wrapB k x = (kx == 3 || (kx == 2 && k != 3)) by unfold wrapB; rw [hkx])
        have HI := hide (fun (W : World) (hW : Below w.heap.size w W) => IH.out x _ W hsx hsx1 hmx (hnx.low hW))
        have HST := hide (show accR k (kidsE k (L.take (j + 1))) = accR k (kidsE k (L.take j) ++ [kidE k x (showE x)]) by rw [kids_step hx])
        have HLN := hide (show (kidsE k (L.take j)).length = j by rw [kidsE_map, List.length_map, List.length_take, HM.out]; omega)
        have HAL := hide (show (accR k (kidsE k (L.take (j + 1)))).length ≤ 5000000 by have h1 := acc_len k k (L.take (j + 1)); have h2 := szL_take L (j + 1); have h3 := HSL.out; omega)
        have HPJ := hide (par_join (showE x))
        obtain ⟨sx, hsxe⟩ : ∃ s : ByteArray, ⟨(showE x).toArray⟩ = s := ⟨_, rfl⟩
        have hzx : sx.size ≤ 5000000 := by rw [← hsxe, bd_size]; exact hlx
        have HSX := hide hsxe
        rw [hsxe] at HPJ
        have HI := hide (show ∀ W, Below w.heap.size w W → Calls Tryd.prog 33 #[.agg #[.int .i64 kx, .int .u64 (u0 : Int), .int .u64 (u1 : Int), .int .u64 (u2 : Int), .int .u64 (u3' : Int), .slice Ax mx capx]] W fun e w' => e = .returned (.string sx) ∧ Below W.heap.size W w' from fun W hW => by rw [← hsxe]; exact HI.out W hW)
        clear hx hcx hnx hsx hsx0 hsx1 hmx hlx hsxe hkx
        have c0 : wr.cell? ⟨b, o + j * 6, none⟩ = some (.int .i64 kx) := HCX.out wr HB.out.2 0 _ rfl
        have c1 := HCX.out wr HB.out.2 1 _ rfl
        have c2 := HCX.out wr HB.out.2 2 _ rfl
        have c3 := HCX.out wr HB.out.2 3 _ rfl
        have c4 := HCX.out wr HB.out.2 4 _ rfl
        have c5 := HCX.out wr HB.out.2 5 _ rfl
        have hj0 : (0 : Int) ≤ (j : Int) := by omega
        have hj1 : (j : Int) < (m : Int) := by omega
        have HNX := hide (Blk.new wr 33 (ndL kx [u0, u1, u2, u3'] (.slice Ax mx capx)))
        have hbx : Below wr.heap.size wr (wr.alloc (.cells #[.int .i64 kx, .int .u64 (u0 : Int), .int .u64 (u1 : Int), .int .u64 (u2 : Int), .int .u64 (u3' : Int), .slice Ax mx capx] 33)) := (Below.refl _ _).alloc (Nat.le_refl _) _
        have HBX := hide (HB.out.low hbx)
        clear hbx
        go_wp2_with fail
        refine (HI.out _ HBX.out.2).mono ?_; rintro e w9 ⟨rfl, hb9⟩
        have HB9 := hide (HBX.out.low hb9)
        have d0 := (HNX.out.below hb9).cell (i := 0) rfl
        clear hb9 HB HBX HI HNX a0 a5 c0 c1 c2 c3 c4 c5 hj0 hj1 HCX
        have a0 := HB9.out.1.cell (i := 0) rfl
        have a5 := HB9.out.1.cell (i := 5) rfl
        have y2 : (⟨#[40]⟩ : ByteArray).size = 1 := rfl
        have y3 : (⟨#[41]⟩ : ByteArray).size = 1 := rfl
        have y4 : (⟨#[124]⟩ : ByteArray).size = 1 := rfl
        cases h3 : (kx == 3) with
        | true =>
          have HWX : wrapB k x = true := by rw [HWR.out, h3]; rfl
          by_cases hk3 : k = 3
          · have p3 : (k == 3) = true := by simpa using hk3
            by_cases hj0 : j = 0
            · have HJ0 := hide hj0
              obtain ⟨ji, hji⟩ : ∃ x : Int, (j : Int) = x := ⟨_, rfl⟩
              have HJI := hide hji
              have qb0 : ¬ 0 < ji := by omega
              have qb1 : 0 ≤ ji := by omega
              have qb2 : ji ≤ 255 := by omega
              rw [hji]
              clear hj0 hji
              have HKT := hide (show kidE k x (showE x) = 40 :: (showE x ++ [41]) by unfold kidE; rw [HWX]; rfl)
              have HVT := hide (show (⟨(kidE k x (showE x)).toArray⟩ : ByteArray) = ⟨#[40]⟩ ++ sx ++ ⟨#[41]⟩ by rw [HKT.out]; exact HPJ.out.symm)
              have HFT := hide (show (⟨(accR k (kidsE k (L.take (j + 1)))).toArray⟩ : ByteArray) = s ++ (⟨#[40]⟩ ++ sx ++ ⟨#[41]⟩) by have h1 := HST.out; have h2 := HT.out; have h3 := HJ0.out; subst h3; rw [List.take_zero, kidsE] at h1 h2; rw [h1, acc_first]; exact txt_app _ _ _ _ h2 HVT.out)
              have hzf : (s ++ (⟨#[40]⟩ ++ sx ++ ⟨#[41]⟩)).size ≤ 5000000 := by rw [← HFT.out, bd_size]; exact HAL.out
              have yw : ((⟨#[40]⟩ : ByteArray) ++ sx ++ ⟨#[41]⟩).size ≤ 5000002 := by rw [ByteArray.size_append, ByteArray.size_append]; omega
              have yv : ((⟨#[40]⟩ : ByteArray) ++ sx).size ≤ 5000001 := by rw [ByteArray.size_append]; omega
              clear hk3
              go_wp2
              go_roundw
              case rel => exact ⟨j + 1, _, by rw [← HJI.out]; go_num, rfl, by omega, hzf, HFT, HB9⟩
              case measure => rw [← HJI.out]; simp [intOf]; omega
            · have HJ0 := hide hj0
              have qb0 : (0 : Int) < (j : Int) := by omega
              clear hj0
              have HKT := hide (show kidE k x (showE x) = 40 :: (showE x ++ [41]) by unfold kidE; rw [HWX]; rfl)
              have HVT := hide (show (⟨(kidE k x (showE x)).toArray⟩ : ByteArray) = ⟨#[40]⟩ ++ sx ++ ⟨#[41]⟩ by rw [HKT.out]; exact HPJ.out.symm)
              have HFT := hide (show (⟨(accR k (kidsE k (L.take (j + 1)))).toArray⟩ : ByteArray) = s ++ (⟨#[124]⟩ ++ (⟨#[40]⟩ ++ sx ++ ⟨#[41]⟩)) by rw [HST.out, acc_bar hk3 _ _ (fun e => by have h1 := HLN.out; rw [e] at h1; have h2 := HJ0.out; simp at h1; omega)]; exact txt_app _ _ _ _ HT.out (bar_app _ _ HVT.out))
              have hzf : (s ++ (⟨#[124]⟩ ++ (⟨#[40]⟩ ++ sx ++ ⟨#[41]⟩))).size ≤ 5000000 := by rw [← HFT.out, bd_size]; exact HAL.out
              have yw : ((⟨#[40]⟩ : ByteArray) ++ sx ++ ⟨#[41]⟩).size ≤ 5000002 := by rw [ByteArray.size_append, ByteArray.size_append]; omega
              have yv : ((⟨#[40]⟩ : ByteArray) ++ sx).size ≤ 5000001 := by rw [ByteArray.size_append]; omega
              have yb : ((⟨#[124]⟩ : ByteArray) ++ (⟨#[40]⟩ ++ sx ++ ⟨#[41]⟩)).size ≤ 5000003 := by rw [ByteArray.size_append]; omega
              clear hk3
              go_wp2
              go_roundw
              case rel => exact ⟨j + 1, _, by go_num, rfl, by omega, hzf, HFT, HB9⟩
              case measure => simp [intOf]; omega
          · have p3 : (k == 3) = false := by simpa using hk3
            have HKT := hide (show kidE k x (showE x) = 40 :: (showE x ++ [41]) by unfold kidE; rw [HWX]; rfl)
            have HVT := hide (show (⟨(kidE k x (showE x)).toArray⟩ : ByteArray) = ⟨#[40]⟩ ++ sx ++ ⟨#[41]⟩ by rw [HKT.out]; exact HPJ.out.symm)
            have HFT := hide (show (⟨(accR k (kidsE k (L.take (j + 1)))).toArray⟩ : ByteArray) = s ++ (⟨#[40]⟩ ++ sx ++ ⟨#[41]⟩) by rw [HST.out, acc_no hk3]; exact txt_app _ _ _ _ HT.out HVT.out)
            have hzf : (s ++ (⟨#[40]⟩ ++ sx ++ ⟨#[41]⟩)).size ≤ 5000000 := by rw [← HFT.out, bd_size]; exact HAL.out
            have yw : ((⟨#[40]⟩ : ByteArray) ++ sx ++ ⟨#[41]⟩).size ≤ 5000002 := by rw [ByteArray.size_append, ByteArray.size_append]; omega
            have yv : ((⟨#[40]⟩ : ByteArray) ++ sx).size ≤ 5000001 := by rw [ByteArray.size_append]; omega
            clear hk3
            go_wp2
            go_roundw
            case rel => exact ⟨j + 1, _, by go_num, rfl, by omega, hzf, HFT, HB9⟩
            case measure => simp [intOf]; omega
        | false =>
          cases h2 : (kx == 2) with
          | false =>
            have HWX : wrapB k x = false := by rw [HWR.out, h3, h2]; rfl
            by_cases hk3 : k = 3
            · have p3 : (k == 3) = true := by simpa using hk3
              by_cases hj0 : j = 0
              · have HJ0 := hide hj0
                obtain ⟨ji, hji⟩ : ∃ x : Int, (j : Int) = x := ⟨_, rfl⟩
                have HJI := hide hji
                have qb0 : ¬ 0 < ji := by omega
                have qb1 : 0 ≤ ji := by omega
                have qb2 : ji ≤ 255 := by omega
                rw [hji]
                clear hj0 hji
                have HKT := hide (show kidE k x (showE x) = showE x by unfold kidE; rw [HWX]; rfl)
                have HVT := hide (show (⟨(kidE k x (showE x)).toArray⟩ : ByteArray) = sx by rw [HKT.out]; exact HSX.out)
                have HFT := hide (show (⟨(accR k (kidsE k (L.take (j + 1)))).toArray⟩ : ByteArray) = s ++ (sx) by have h1 := HST.out; have h2 := HT.out; have h3 := HJ0.out; subst h3; rw [List.take_zero, kidsE] at h1 h2; rw [h1, acc_first]; exact txt_app _ _ _ _ h2 HVT.out)
                have hzf : (s ++ (sx)).size ≤ 5000000 := by rw [← HFT.out, bd_size]; exact HAL.out
                clear hk3
                go_wp2
                go_roundw
                case rel => exact ⟨j + 1, _, by rw [← HJI.out]; go_num, rfl, by omega, hzf, HFT, HB9⟩
                case measure => rw [← HJI.out]; simp [intOf]; omega
              · have HJ0 := hide hj0
                have qb0 : (0 : Int) < (j : Int) := by omega
                clear hj0
                have HKT := hide (show kidE k x (showE x) = showE x by unfold kidE; rw [HWX]; rfl)
                have HVT := hide (show (⟨(kidE k x (showE x)).toArray⟩ : ByteArray) = sx by rw [HKT.out]; exact HSX.out)
                have HFT := hide (show (⟨(accR k (kidsE k (L.take (j + 1)))).toArray⟩ : ByteArray) = s ++ (⟨#[124]⟩ ++ (sx)) by rw [HST.out, acc_bar hk3 _ _ (fun e => by have h1 := HLN.out; rw [e] at h1; have h2 := HJ0.out; simp at h1; omega)]; exact txt_app _ _ _ _ HT.out (bar_app _ _ HVT.out))
                have hzf : (s ++ (⟨#[124]⟩ ++ (sx))).size ≤ 5000000 := by rw [← HFT.out, bd_size]; exact HAL.out
                have yb : ((⟨#[124]⟩ : ByteArray) ++ (sx)).size ≤ 5000003 := by rw [ByteArray.size_append]; omega
                clear hk3
                go_wp2
                go_roundw
                case rel => exact ⟨j + 1, _, by go_num, rfl, by omega, hzf, HFT, HB9⟩
                case measure => simp [intOf]; omega
            · have p3 : (k == 3) = false := by simpa using hk3
              have HKT := hide (show kidE k x (showE x) = showE x by unfold kidE; rw [HWX]; rfl)
              have HVT := hide (show (⟨(kidE k x (showE x)).toArray⟩ : ByteArray) = sx by rw [HKT.out]; exact HSX.out)
              have HFT := hide (show (⟨(accR k (kidsE k (L.take (j + 1)))).toArray⟩ : ByteArray) = s ++ (sx) by rw [HST.out, acc_no hk3]; exact txt_app _ _ _ _ HT.out HVT.out)
              have hzf : (s ++ (sx)).size ≤ 5000000 := by rw [← HFT.out, bd_size]; exact HAL.out
              clear hk3
              go_wp2
              go_roundw
              case rel => exact ⟨j + 1, _, by go_num, rfl, by omega, hzf, HFT, HB9⟩
              case measure => simp [intOf]; omega
          | true =>
            cases ho : (k != 3) with
            | true =>
              have HWX : wrapB k x = true := by rw [HWR.out, h3, h2, ho]; rfl
              have po : (k != 3) = true := ho
              have hk3 : k ≠ 3 := by simpa using ho
              have p3 : (k == 3) = false := by simpa using hk3
              clear ho
              have HKT := hide (show kidE k x (showE x) = 40 :: (showE x ++ [41]) by unfold kidE; rw [HWX]; rfl)
              have HVT := hide (show (⟨(kidE k x (showE x)).toArray⟩ : ByteArray) = ⟨#[40]⟩ ++ sx ++ ⟨#[41]⟩ by rw [HKT.out]; exact HPJ.out.symm)
              have HFT := hide (show (⟨(accR k (kidsE k (L.take (j + 1)))).toArray⟩ : ByteArray) = s ++ (⟨#[40]⟩ ++ sx ++ ⟨#[41]⟩) by rw [HST.out, acc_no hk3]; exact txt_app _ _ _ _ HT.out HVT.out)
              have hzf : (s ++ (⟨#[40]⟩ ++ sx ++ ⟨#[41]⟩)).size ≤ 5000000 := by rw [← HFT.out, bd_size]; exact HAL.out
              have yw : ((⟨#[40]⟩ : ByteArray) ++ sx ++ ⟨#[41]⟩).size ≤ 5000002 := by rw [ByteArray.size_append, ByteArray.size_append]; omega
              have yv : ((⟨#[40]⟩ : ByteArray) ++ sx).size ≤ 5000001 := by rw [ByteArray.size_append]; omega
              clear hk3
              go_wp2
              go_roundw
              case rel => exact ⟨j + 1, _, by go_num, rfl, by omega, hzf, HFT, HB9⟩
              case measure => simp [intOf]; omega
            | false =>
              have HWX : wrapB k x = false := by rw [HWR.out, h3, h2, ho]; rfl
              have po : (k != 3) = false := ho
              have hk3 : k = 3 := by simpa using ho
              have p3 : (k == 3) = true := by simpa using hk3
              clear ho
              by_cases hj0 : j = 0
              · have HJ0 := hide hj0
                obtain ⟨ji, hji⟩ : ∃ x : Int, (j : Int) = x := ⟨_, rfl⟩
                have HJI := hide hji
                have qb0 : ¬ 0 < ji := by omega
                have qb1 : 0 ≤ ji := by omega
                have qb2 : ji ≤ 255 := by omega
                rw [hji]
                clear hj0 hji
                have HKT := hide (show kidE k x (showE x) = showE x by unfold kidE; rw [HWX]; rfl)
                have HVT := hide (show (⟨(kidE k x (showE x)).toArray⟩ : ByteArray) = sx by rw [HKT.out]; exact HSX.out)
                have HFT := hide (show (⟨(accR k (kidsE k (L.take (j + 1)))).toArray⟩ : ByteArray) = s ++ (sx) by have h1 := HST.out; have h2 := HT.out; have h3 := HJ0.out; subst h3; rw [List.take_zero, kidsE] at h1 h2; rw [h1, acc_first]; exact txt_app _ _ _ _ h2 HVT.out)
                have hzf : (s ++ (sx)).size ≤ 5000000 := by rw [← HFT.out, bd_size]; exact HAL.out
                clear hk3
                go_wp2
                go_roundw
                case rel => exact ⟨j + 1, _, by rw [← HJI.out]; go_num, rfl, by omega, hzf, HFT, HB9⟩
                case measure => rw [← HJI.out]; simp [intOf]; omega
              · have HJ0 := hide hj0
                have qb0 : (0 : Int) < (j : Int) := by omega
                clear hj0
                have HKT := hide (show kidE k x (showE x) = showE x by unfold kidE; rw [HWX]; rfl)
                have HVT := hide (show (⟨(kidE k x (showE x)).toArray⟩ : ByteArray) = sx by rw [HKT.out]; exact HSX.out)
                have HFT := hide (show (⟨(accR k (kidsE k (L.take (j + 1)))).toArray⟩ : ByteArray) = s ++ (⟨#[124]⟩ ++ (sx)) by rw [HST.out, acc_bar hk3 _ _ (fun e => by have h1 := HLN.out; rw [e] at h1; have h2 := HJ0.out; simp at h1; omega)]; exact txt_app _ _ _ _ HT.out (bar_app _ _ HVT.out))
                have hzf : (s ++ (⟨#[124]⟩ ++ (sx))).size ≤ 5000000 := by rw [← HFT.out, bd_size]; exact HAL.out
                have yb : ((⟨#[124]⟩ : ByteArray) ++ (sx)).size ≤ 5000003 := by rw [ByteArray.size_append]; omega
                clear hk3
                go_wp2
                go_roundw
                case rel => exact ⟨j + 1, _, by go_num, rfl, by omega, hzf, HFT, HB9⟩
                case measure => simp [intOf]; omega
      · obtain rfl : j = m := by omega
        have hLL : L.take j = L := List.take_of_length_le (by rw [HM.out]; exact Nat.le_refl _)
        rw [hLL] at HT
        clear hLL
        by_cases h4 : k = 4
        · subst h4
          have HR := hide (show (⟨T.toArray⟩ : ByteArray) = s ++ ⟨#[42]⟩ by rw [HSE2.out, if_pos rfl]; exact txt_app _ _ _ _ HT.out rfl)
          have y9 : (⟨#[42]⟩ : ByteArray).size = 1 := rfl
          go_wp2
          go_ret
          exact StrP.mk HR.out.symm rfl HB.out.2
        have p4 : (k == 4) = false := by simpa using h4
        by_cases h5 : k = 5
        · subst h5
          have HR := hide (show (⟨T.toArray⟩ : ByteArray) = s ++ ⟨#[43]⟩ by rw [HSE2.out, if_neg (by decide), if_pos rfl]; exact txt_app _ _ _ _ HT.out rfl)
          have y9 : (⟨#[43]⟩ : ByteArray).size = 1 := rfl
          go_wp2
          go_ret
          exact StrP.mk HR.out.symm rfl HB.out.2
        have p5 : (k == 5) = false := by simpa using h5
        by_cases h6 : k = 6
        · subst h6
          have HR := hide (show (⟨T.toArray⟩ : ByteArray) = s ++ ⟨#[63]⟩ by rw [HSE2.out, if_neg (by decide), if_neg (by decide), if_pos rfl]; exact txt_app _ _ _ _ HT.out rfl)
          have y9 : (⟨#[63]⟩ : ByteArray).size = 1 := rfl
          go_wp2
          go_ret
          exact StrP.mk HR.out.symm rfl HB.out.2
        have p6 : (k == 6) = false := by simpa using h6
        have HR := hide (show (⟨T.toArray⟩ : ByteArray) = s by rw [HSE2.out, if_neg h4, if_neg h5, if_neg h6]; exact HT.out)
        clear h4 h5 h6
        go_wp2
        go_ret
        exact StrP.mk HR.out.symm rfl HB.out.2
end Go.Proofs.YtfamoikmfbpigaaDoor
namespace Go.Proofs.YtfamoikmfbpigaaDoor
open Go.RowKit

/-- How many nodes, as far as that is not above 300; so deep at most. -/
def manyE : Nat → Nd → Nat
  | 0, _ => 301
  | d + 1, .mk _ _ L => L.foldl (fun k x => if k ≤ 300 then k + manyE d x else k) 1
def manyL (d : Nat) (L : List Nd) (k : Nat) : Nat := L.foldl (fun k x => if k ≤ 300 then k + manyE d x else k) k
theorem manyL_stop (d : Nat) : ∀ (L : List Nd) (k : Nat), 300 < k → manyL d L k = k
  | [], _, _ => rfl
  | x :: l, k, h => by
    unfold manyL
    rw [List.foldl_cons, if_neg (by omega)]
    exact manyL_stop d l k h
theorem manyL_cons {d : Nat} {L : List Nd} {j k : Nat} {x : Nd} (h : L[j]? = some x) (hk : k ≤ 300) : manyL d (L.drop j) k = manyL d (L.drop (j + 1)) (k + manyE d x) := by
  obtain ⟨hj, hx⟩ := List.getElem?_eq_some_iff.1 h
  rw [List.drop_eq_getElem_cons hj, hx]
  unfold manyL
  rw [List.foldl_cons, if_pos hk]
theorem many_le : ∀ (d : Nat) (n : Nd), manyE d n ≤ 301 + 301 * d
  | 0, _ => by simp [manyE]
  | d + 1, .mk _ _ L => by
    unfold manyE
    have key : ∀ (L : List Nd) (k : Nat), k ≤ 301 + 301 * (d + 1) → L.foldl (fun k x => if k ≤ 300 then k + manyE d x else k) k ≤ 301 + 301 * (d + 1) := by
      intro L
      induction L with
      | nil => intro k hk; exact hk
      | cons x l ih =>
        intro k hk
        rw [List.foldl_cons]
        apply ih
        have := many_le d x
        split <;> omega
    exact key L 1 (by omega)
set_option maxHeartbeats 4000000 in
set_option maxRecDepth 100000 in
theorem many_any : ∀ (d : Nat) (n : Nd) (cs : List Value) (P : Nat → Prop) (w : World), d ≤ 1000 → NdX P w n cs →
    Calls Tryd.prog 15 #[.agg cs.toArray, .int .i64 (d : Int)] w (NatP (manyE d n) w)
  | d, .mk k S L, cs, P, w, hd, hn => by
    obtain ⟨x0, x1, x2, x3, A, cap, rfl, rfl, hw, hc, hcm, hkids⟩ := hn.parts
    have HK := hide hkids
    obtain ⟨m, hm0⟩ : ∃ m, L.length = m := ⟨_, rfl⟩
    have HM := hide hm0
    have HB0 := hide (show Below w.heap.size w (w.alloc (.cells (ndL k [x0, x1, x2, x3] (.slice A m cap)).toArray 27)) from (Below.refl _ _).alloc (Nat.le_refl _) _)
    have HBL := hide (Blk.new w 27 (ndL k [x0, x1, x2, x3] (.slice A m cap)))
    rw [hm0] at hc ⊢
    clear hn hkids hw hm0
    unfold maxLen at hcm
    rw [show (ndL k [x0, x1, x2, x3] (.slice A m cap)).toArray = #[.int .i64 k, .int .u64 (x0 : Int), .int .u64 (x1 : Int), .int .u64 (x2 : Int), .int .u64 (x3 : Int), .slice A m cap] from rfl]
    match d, hd with
    | 0, _ =>
      rw [show ((0 : Nat) : Int) = (0 : Int) from rfl]
      go_enter Tryd.func15, Tryd.ntmps15
      go_wp2
      rw [show w.alloc (.cells #[.int .i64 k, .int .u64 (x0 : Int), .int .u64 (x1 : Int), .int .u64 (x2 : Int), .int .u64 (x3 : Int), .slice A m cap] 27) = w.alloc (.cells (ndL k [x0, x1, x2, x3] (.slice A m cap)).toArray 27) from rfl]
      obtain ⟨W0, hW0⟩ : ∃ W, w.alloc (.cells (ndL k [x0, x1, x2, x3] (.slice A m cap)).toArray 27) = W := ⟨_, rfl⟩
      rw [hW0] at HBL HB0 ⊢
      clear hW0
      go_loopw [6] (fun iv wr => iv = .int .i64 0 ∧ Hid (Blk wr w.heap.size 27 (ndL k [x0, x1, x2, x3] (.slice A m cap))) ∧ Hid (Below w.heap.size w wr)) (fun iv _ => 0)
      case atStart => exact ⟨rfl, HBL, HB0⟩
      case round =>
        clear HBL HB0
        obtain ⟨rfl, HX, HB⟩ := hrel
        have a5 := HX.out.cell (i := 5) rfl
        by_cases h0 : (0 : Int) < (m : Int)
        all_goals (
          go_wp2
          go_ret
          exact NatP.mk rfl rfl HB.out)
    | d + 1, hd =>
      have IH := hide (fun (n : Nd) (cs : List Value) (W : World) (h2 : NdX P W n cs) => many_any d n cs P W (by omega) h2)
      have HT0 := hide (show manyE (d + 1) (.mk k [x0, x1, x2, x3] L) = manyL d (L.drop 0) 1 from rfl)
      obtain ⟨T, hT⟩ : ∃ T, manyE (d + 1) (.mk k [x0, x1, x2, x3] L) = T := ⟨_, rfl⟩
      rw [hT] at HT0 ⊢
      rw [show ((d + 1 : Nat) : Int) = (d : Int) + 1 from rfl]
      have hd0 : (0 : Int) < (d : Int) + 1 := by omega
      have hd1 : (((d : Int) + 1) == 0) = false := by simp; omega
      clear hT
      go_enter Tryd.func15, Tryd.ntmps15
      go_wp2
      rw [show w.alloc (.cells #[.int .i64 k, .int .u64 (x0 : Int), .int .u64 (x1 : Int), .int .u64 (x2 : Int), .int .u64 (x3 : Int), .slice A m cap] 27) = w.alloc (.cells (ndL k [x0, x1, x2, x3] (.slice A m cap)).toArray 27) from rfl]
      obtain ⟨W0, hW0⟩ : ∃ W, w.alloc (.cells (ndL k [x0, x1, x2, x3] (.slice A m cap)).toArray 27) = W := ⟨_, rfl⟩
      rw [hW0] at HBL HB0 ⊢
      clear hW0
      go_loopw [5, 6] (fun kv iv wr => ∃ j t : Nat, iv = .int .i64 j ∧ kv = .int .i64 (t : Int) ∧ j ≤ m ∧ t ≤ 1000000 ∧ Hid (T = manyL d (L.drop j) t) ∧ Hid (Blk wr w.heap.size 27 (ndL k [x0, x1, x2, x3] (.slice A m cap))) ∧ Hid (Below w.heap.size w wr)) (fun _ iv _ => m - (intOf iv).toNat)
      case atStart => exact ⟨0, 1, rfl, rfl, by omega, by omega, HT0, HBL, HB0⟩
      case round =>
        clear HBL HB0 HT0
        obtain ⟨j, t, rfl, rfl, hj, ht, HT, HX, HB⟩ := hrel
        have a5 := HX.out.cell (i := 5) rfl
        by_cases hlt : j < m
        · by_cases h300 : t ≤ 300
          · obtain ⟨x, hx⟩ : ∃ x, L[j]? = some x := ⟨_, List.getElem?_eq_getElem (by rw [HM.out]; exact hlt)⟩
            obtain ⟨b, o, cx, rfl, hb, -, hcx, hnx⟩ := HK.out.get j x hx
            obtain ⟨kx, u0, u1, u2, u3, Ax, mx, capx, rfl, -, -⟩ := hnx.form
            have HCX := hide (fun (W : World) (hW : Below w.heap.size w W) i u (hu : (ndL kx [u0, u1, u2, u3] (.slice Ax mx capx))[i]? = some u) => show W.cell? ⟨b, o + j * 6 + i, none⟩ = some u from (hW.cell (p := ⟨b, o + j * 6 + i, none⟩) hb.2).trans (by have := hcx i u hu; rw [Nat.zero_add] at this; exact this))
            have HI := hide (fun (W : World) (hW : Below w.heap.size w W) => IH.out x _ W (hnx.low hW))
            have HST := hide (manyL_cons (d := d) hx h300)
            obtain ⟨dx, hdx⟩ : ∃ q, manyE d x = q := ⟨_, rfl⟩
            have hdb : dx ≤ 400000 := by rw [← hdx]; have := many_le d x; omega
            rw [hdx] at HI HST
            clear hx hcx hnx hdx
            have c0 : wr.cell? ⟨b, o + j * 6, none⟩ = some (.int .i64 kx) := HCX.out wr HB.out 0 _ rfl
            have c1 := HCX.out wr HB.out 1 _ rfl
            have c2 := HCX.out wr HB.out 2 _ rfl
            have c3 := HCX.out wr HB.out 3 _ rfl
            have c4 := HCX.out wr HB.out 4 _ rfl
            have c5 := HCX.out wr HB.out 5 _ rfl
            have hj0 : (0 : Int) ≤ (j : Int) := by omega
            have hj1 : (j : Int) < (m : Int) := by omega
            have ht1 : (t : Int) ≤ 300 := by omega
            go_wp2_with fail
            refine (HI.out _ HB.out).mono ?_; rintro e w9 ⟨rfl, hb9⟩
            have HX9 := hide (HX.out.below hb9)
            have HB9 := hide (HB.out.trans (hb9.mono HB.out.size))
            clear hb9 HX HB HI a5 c0 c1 c2 c3 c4 c5
            go_wp2
            go_roundw
            case rel => exact ⟨j + 1, t + dx, by go_num, by first | rfl | (congr 1; omega) | go_num, by omega, by omega, hide (by rw [HT.out, HST.out]), HX9, HB9⟩
            case measure => simp [intOf]; omega
          · have ht1 : ¬ (t : Int) ≤ 300 := by omega
            have hj1 : (j : Int) < (m : Int) := by omega
            have HR := hide (show T = t by rw [HT.out]; exact manyL_stop d _ _ (by omega))
            go_wp2
            go_ret
            exact NatP.mk (by rw [HR.out]) rfl HB.out
        · obtain rfl : j = m := by omega
          have HR := hide (show T = t by rw [HT.out, List.drop_of_length_le (by rw [HM.out]; exact Nat.le_refl _)]; rfl)
          go_wp2
          go_ret
          exact NatP.mk (by rw [HR.out]) rfl HB.out
end Go.Proofs.YtfamoikmfbpigaaDoor
namespace Go.Proofs.YtfamoikmfbpigaaDoor
open Go.RowKit

mutual
theorem mayE_split : ∀ (n : Nd) (d : Nat), mayE d n = (rmayE n && decide (deepE n ≤ d))
  | .mk k S L, 0 => by
    rw [mayE, deepE, decide_eq_false (by omega), Bool.and_false]
  | .mk k S L, d + 1 => by
    have h := mayL_split L d
    rw [mayE, deepE, rmayE, h]
    rw [show decide (deepL L + 1 ≤ d + 1) = decide (deepL L ≤ d) from by rw [decide_eq_decide]; omega, Bool.and_assoc]
theorem mayL_split : ∀ (L : List Nd) (d : Nat), L.all (mayE d) = (rmayL L && decide (deepL L ≤ d))
  | [], d => by simp [rmayL, deepL]
  | x :: l, d => by
    have h1 := mayE_split x d
    have h2 := mayL_split l d
    rw [List.all_cons, h1, h2, rmayL, deepL]
    rw [show decide (max (deepE x) (deepL l) ≤ d) = (decide (deepE x ≤ d) && decide (deepL l ≤ d)) from by rw [← Bool.decide_and, decide_eq_decide]; omega]
    cases rmayE x <;> cases rmayL l <;> cases decide (deepE x ≤ d) <;> cases decide (deepL l ≤ d) <;> rfl
end
theorem manyL_ge (d : Nat) : ∀ (L : List Nd) (k : Nat), k ≤ manyL d L k
  | [], k => Nat.le_refl _
  | x :: l, k => by
    unfold manyL
    rw [List.foldl_cons]
    have := manyL_ge d l (if k ≤ 300 then k + manyE d x else k)
    unfold manyL at this
    refine Nat.le_trans ?_ this
    split <;> omega
theorem many_sz : ∀ (d : Nat) (n : Nd), manyE d n ≤ 300 → szN n = manyE d n ∧ deepE n ≤ d
  | 0, n, h => by simp [manyE] at h
  | d + 1, .mk k S L, h => by
    have key : ∀ (L : List Nd) (k : Nat), manyL d L k ≤ 300 → szL L + k = manyL d L k ∧ deepL L ≤ d := by
      intro L
      induction L with
      | nil => intro k h; unfold manyL; simp [szL, deepL]
      | cons x l ih =>
        intro k h
        have h0 : k ≤ 300 := Nat.le_trans (manyL_ge d (x :: l) k) h
        have e : manyL d (x :: l) k = manyL d l (k + manyE d x) := by unfold manyL; rw [List.foldl_cons, if_pos h0]
        rw [e] at h ⊢
        have h1 := manyL_ge d l (k + manyE d x)
        obtain ⟨i1, i2⟩ := ih _ h
        obtain ⟨j1, j2⟩ := many_sz d x (by omega)
        rw [szL, deepL]
        omega
    have := key L 1 (by unfold manyL; unfold manyE at h; exact h)
    unfold manyL at this
    rw [szN, manyE, deepE]
    omega
/-- What is shown of any node. -/
def wholeE (n : Nd) : List UInt8 := if rmayE n = true ∧ deepE n ≤ 200 then showE n else []
theorem whole_yes {n : Nd} (h : mayE 200 n = true) : rmayE n = true ∧ wholeE n = showE n := by
  rw [mayE_split, Bool.and_eq_true, decide_eq_true_eq] at h
  exact ⟨h.1, if_pos h⟩
theorem whole_no {n : Nd} (h : mayE 200 n = false) : wholeE n = [] := by
  rw [mayE_split] at h
  exact if_neg fun e => by rw [e.1, decide_eq_true e.2] at h; simp at h
theorem new_node {P : Nat → Prop} {w W : World} {n : Nd} {cs : List Value} (t : TypeId) (h : NdX P w n cs) (hb : Below w.heap.size (w.alloc (.cells cs.toArray t)) W) : NdX P W n cs := h.low (((Below.refl w.heap.size w).alloc (Nat.le_refl _) _).trans hb)
set_option maxHeartbeats 2000000 in
set_option maxRecDepth 100000 in
theorem whole_any (n : Nd) (cs : List Value) (P : Nat → Prop) (w : World) (hsz : szN n ≤ 2000) (hn : NdX P w n cs) :
    Calls Tryd.prog 16 #[.agg cs.toArray] w (StrP (wholeE n) w) := by
  obtain ⟨k, x0, x1, x2, x3, A, m, cap, rfl, -, -⟩ := hn.form
  have HB := hide (show Below w.heap.size w (w.alloc (.cells (ndL k [x0, x1, x2, x3] (.slice A m cap)).toArray 27)) from (Below.refl _ _).alloc (Nat.le_refl _) _)
  have HN := hide (fun (W : World) (h : Below w.heap.size w W) => hn.low h)
  have HY := hide (fun (h : mayE 200 n = true) => whole_yes h)
  have HZ := hide (fun (h : mayE 200 n = false) => whole_no h)
  have HM := hide (fun (W : World) (h : NdX P W n (ndL k [x0, x1, x2, x3] (.slice A m cap))) => show Calls Tryd.prog 29 #[.agg #[.int .i64 k, .int .u64 (x0 : Int), .int .u64 (x1 : Int), .int .u64 (x2 : Int), .int .u64 (x3 : Int), .slice A m cap], .int .i64 200] W (BoolP (mayE 200 n) W) from may_any (szN n + 1) n 200 _ P W (by omega) (by omega) h)
  have HS := hide (fun (W : World) (hr : rmayE n = true) (h : NdX P W n (ndL k [x0, x1, x2, x3] (.slice A m cap))) => show Calls Tryd.prog 30 #[.agg #[.int .i64 k, .int .u64 (x0 : Int), .int .u64 (x1 : Int), .int .u64 (x2 : Int), .int .u64 (x3 : Int), .slice A m cap]] W (StrP (showE n) W) from show_any (szN n + 1) n _ P W (by omega) hsz hr h)
  obtain ⟨y, hy⟩ : ∃ y, mayE 200 n = y := ⟨_, rfl⟩
  rw [hy] at HY HZ HM
  have HK := hide (Blk.new w 27 (ndL k [x0, x1, x2, x3] (.slice A m cap)))
  clear hy hn hsz
  rw [show (ndL k [x0, x1, x2, x3] (.slice A m cap)).toArray = #[.int .i64 k, .int .u64 (x0 : Int), .int .u64 (x1 : Int), .int .u64 (x2 : Int), .int .u64 (x3 : Int), .slice A m cap] from rfl]
  go_enter Tryd.func16, Tryd.ntmps16
  go_wp2_with fail
  refine (HM.out _ (HN.out _ HB.out)).mono ?_; rintro e w1 ⟨rfl, hb1⟩
  have HB1 := hide (HB.out.trans (hb1.mono HB.out.size))
  have HK1 := hide (HK.out.below hb1)
  have c0 := HK1.out.cell (i := 0) rfl
  have c1 := HK1.out.cell (i := 1) rfl
  have c2 := HK1.out.cell (i := 2) rfl
  have c3 := HK1.out.cell (i := 3) rfl
  have c4 := HK1.out.cell (i := 4) rfl
  have c5 := HK1.out.cell (i := 5) rfl
  clear hb1
  cases y with
  | false =>
    go_wp2
    go_ret
    exact StrP.mk (by rw [HZ.out (by first | trivial | rfl)]) rfl HB1.out
  | true =>
    go_wp2_with fail
    refine (HS.out _ (HY.out (by first | trivial | rfl)).1 (HN.out _ HB1.out)).mono ?_; rintro e w2 ⟨rfl, hb2⟩
    go_wp2
    go_ret
    exact StrP.mk (by rw [(HY.out (by first | trivial | rfl)).2]) rfl (HB1.out.trans (hb2.mono HB1.out.size))
set_option maxHeartbeats 2000000 in
set_option maxRecDepth 100000 in
theorem rwhole_any (n : Nd) (cs : List Value) (P : Nat → Prop) (w : World) (hsz : szN n ≤ 2000) (hn : NdX P w n cs) :
    Calls Tryd.prog 17 #[.agg cs.toArray] w (StrP (wholeE n) w) := by
  obtain ⟨k, x0, x1, x2, x3, A, m, cap, rfl, -, -⟩ := hn.form
  have HB := hide (show Below w.heap.size w (w.alloc (.cells (ndL k [x0, x1, x2, x3] (.slice A m cap)).toArray 33)) from (Below.refl _ _).alloc (Nat.le_refl _) _)
  have HN := hide (fun (W : World) (h : Below w.heap.size w W) => hn.low h)
  obtain ⟨y, hy⟩ : ∃ y, rmayE n = y := ⟨_, rfl⟩
  obtain ⟨D, hD⟩ : ∃ D, deepE n = D := ⟨_, rfl⟩
  have hdz : D ≤ 2000 := by rw [← hD]; exact Nat.le_trans (deep_sz n) hsz
  have HY := hide (show y = true → D ≤ 200 → wholeE n = showE n by rw [← hy, ← hD]; exact fun h1 h2 => if_pos ⟨h1, h2⟩)
  have HZ := hide (show ¬ (y = true ∧ D ≤ 200) → wholeE n = [] by rw [← hy, ← hD]; exact fun h => if_neg h)
  have HM := hide (fun (W : World) (h : NdX P W n (ndL k [x0, x1, x2, x3] (.slice A m cap))) => show Calls Tryd.prog 31 #[.agg #[.int .i64 k, .int .u64 (x0 : Int), .int .u64 (x1 : Int), .int .u64 (x2 : Int), .int .u64 (x3 : Int), .slice A m cap]] W (BoolP y W) from by rw [← hy]; exact rmay_any (szN n + 1) n _ P W (by omega) h)
  have HDp := hide (fun (W : World) (h : NdX P W n (ndL k [x0, x1, x2, x3] (.slice A m cap))) => show Calls Tryd.prog 32 #[.agg #[.int .i64 k, .int .u64 (x0 : Int), .int .u64 (x1 : Int), .int .u64 (x2 : Int), .int .u64 (x3 : Int), .slice A m cap]] W (NatP D W) from by rw [← hD]; exact deep_any (szN n + 1) n _ P W (by omega) (by omega) h)
  have HS := hide (fun (W : World) (hr : y = true) (h : NdX P W n (ndL k [x0, x1, x2, x3] (.slice A m cap))) => show Calls Tryd.prog 33 #[.agg #[.int .i64 k, .int .u64 (x0 : Int), .int .u64 (x1 : Int), .int .u64 (x2 : Int), .int .u64 (x3 : Int), .slice A m cap]] W (StrP (showE n) W) from rshow_any (szN n + 1) n _ P W (by omega) hsz (hy.trans hr) h)
  have HK := hide (Blk.new w 33 (ndL k [x0, x1, x2, x3] (.slice A m cap)))
  clear hy hn hsz hD
  rw [show (ndL k [x0, x1, x2, x3] (.slice A m cap)).toArray = #[.int .i64 k, .int .u64 (x0 : Int), .int .u64 (x1 : Int), .int .u64 (x2 : Int), .int .u64 (x3 : Int), .slice A m cap] from rfl]
  go_enter Tryd.func17, Tryd.ntmps17
  go_wp2_with fail
  refine (HM.out _ (HN.out _ HB.out)).mono ?_; rintro e w1 ⟨rfl, hb1⟩
  have HB1 := hide (HB.out.trans (hb1.mono HB.out.size))
  have HK1 := hide (HK.out.below hb1)
  have c0 := HK1.out.cell (i := 0) rfl
  have c1 := HK1.out.cell (i := 1) rfl
  have c2 := HK1.out.cell (i := 2) rfl
  have c3 := HK1.out.cell (i := 3) rfl
  have c4 := HK1.out.cell (i := 4) rfl
  have c5 := HK1.out.cell (i := 5) rfl
  clear hb1
  cases y with
  | false =>
    go_wp2
    go_ret
    exact StrP.mk (by rw [HZ.out (by simp)]) rfl HB1.out
  | true =>
    go_wp2_with fail
    refine (HDp.out _ (HN.out _ HB1.out)).mono ?_; rintro e w2 ⟨rfl, hb2⟩
    have HB2 := hide (HB1.out.trans (hb2.mono HB1.out.size))
    have HK2 := hide (HK1.out.below hb2)
    have d0 := HK2.out.cell (i := 0) rfl
    have d1 := HK2.out.cell (i := 1) rfl
    have d2 := HK2.out.cell (i := 2) rfl
    have d3 := HK2.out.cell (i := 3) rfl
    have d4 := HK2.out.cell (i := 4) rfl
    have d5 := HK2.out.cell (i := 5) rfl
    clear hb2
    by_cases h2 : 200 < D
    · go_wp2
      go_ret
      exact StrP.mk (by rw [HZ.out (by omega)]) rfl HB2.out
    · go_wp2_with fail
      refine (HS.out _ (by first | trivial | rfl) (HN.out _ HB2.out)).mono ?_; rintro e w3 ⟨rfl, hb3⟩
      go_wp2
      go_ret
      exact StrP.mk (by rw [HY.out (by first | trivial | rfl) (by omega)]) rfl (HB2.out.trans (hb3.mono HB2.out.size))
end Go.Proofs.YtfamoikmfbpigaaDoor
namespace Go.Proofs.YtfamoikmfbpigaaDoor
open Go.RowKit

theorem box_any {P : Nat → Prop} {w W : World} {n : Nd} {cs : List Value} (h : NdX P W n cs) (hb : Below w.heap.size w W) : NdX P (W.alloc (.cells cs.toArray 27)) n cs ∧ Below w.heap.size w (W.alloc (.cells cs.toArray 27)) ∧ Blk (W.alloc (.cells cs.toArray 27)) W.heap.size 27 cs :=
  ⟨h.low ((Below.refl _ _).alloc (Nat.le_refl _) _), hb.alloc hb.size _, Blk.new _ _ _⟩
def againB (s want : ByteArray) : Bool := (parseP s).2 == 0 && decide (s.size ≤ 1000) && decide (szN (parseP s).1 ≤ 2000) && wholeE (parseP s).1 == want.data.toList
def noB (s : ByteArray) : Bool := (parseP s).2 == 10 && decide (s.size ≤ 1000)
set_option maxHeartbeats 2000000 in
set_option maxRecDepth 100000 in
theorem again_yes (r : Nat) (s want : ByteArray) (w : World) (hS : SGr r w) (h : againB s want = true) :
    Calls Tryd.prog 24 #[.string s, .string want] w (BoolP true w) := by
  unfold againB at h
  simp only [Bool.and_eq_true, decide_eq_true_eq, beq_iff_eq] at h
  obtain ⟨⟨⟨h1, h2⟩, h3⟩, h4⟩ := h
  have HP := hide (parse_any r s w (by omega) hS)
  rw [h1] at HP
  have hw : (⟨(wholeE (parseP s).1).toArray⟩ : ByteArray) = want := by rw [h4]
  have HS := hide (fun (cs : List Value) (P : Nat → Prop) (W : World) (h : NdX P W (parseP s).1 cs) => show Calls Tryd.prog 16 #[.agg cs.toArray] W (fun e w' => e = .returned (.string want) ∧ Below W.heap.size W w') from by rw [← hw]; exact whole_any _ cs P W h3 h)
  clear hS h1 h2 h3 h4 hw
  go_enter Tryd.func24, Tryd.ntmps24
  go_wp2_with fail
  refine HP.out.mono ?_; rintro e w1 ⟨cs, rfl, hn, hb1⟩
  have hx := NdX.of _ _ hn
  obtain ⟨k, x0, x1, x2, x3, A, m, cap, rfl, -, -⟩ := hx.form
  have HB := hide (box_any hx hb1)
  clear hn hx hb1
  rw [show (ndL k [x0, x1, x2, x3] (.slice A m cap)).toArray = #[.int .i64 k, .int .u64 (x0 : Int), .int .u64 (x1 : Int), .int .u64 (x2 : Int), .int .u64 (x3 : Int), .slice A m cap] from rfl]
  have HC := hide (show Calls Tryd.prog 16 #[.agg #[.int .i64 k, .int .u64 (x0 : Int), .int .u64 (x1 : Int), .int .u64 (x2 : Int), .int .u64 (x3 : Int), .slice A m cap]] _ _ from HS.out _ _ _ HB.out.1)
  go_wp2_with fail
  refine HC.out.mono ?_; rintro e w2 ⟨rfl, hb2⟩
  go_wp2
  go_ret
  exact ⟨rfl, HB.out.2.1.trans (hb2.mono HB.out.2.1.size)⟩
set_option maxHeartbeats 2000000 in
set_option maxRecDepth 100000 in
theorem no_yes (r : Nat) (s : ByteArray) (w : World) (hS : SGr r w) (h : noB s = true) :
    Calls Tryd.prog 25 #[.string s] w (BoolP true w) := by
  unfold noB at h
  simp only [Bool.and_eq_true, decide_eq_true_eq, beq_iff_eq] at h
  obtain ⟨h1, h2⟩ := h
  have HP := hide (parse_any r s w (by omega) hS)
  rw [h1] at HP
  clear hS h1 h2
  go_enter Tryd.func25, Tryd.ntmps25
  go_wp2_with fail
  refine HP.out.mono ?_; rintro e w1 ⟨cs, rfl, hn, hb1⟩
  have hx := NdX.of _ _ hn
  obtain ⟨k, x0, x1, x2, x3, A, m, cap, rfl, -, -⟩ := hx.form
  have HB := hide (box_any hx hb1)
  clear hn hx hb1
  rw [show (ndL k [x0, x1, x2, x3] (.slice A m cap)).toArray = #[.int .i64 k, .int .u64 (x0 : Int), .int .u64 (x1 : Int), .int .u64 (x2 : Int), .int .u64 (x3 : Int), .slice A m cap] from rfl]
  go_wp2
  go_ret
  exact ⟨rfl, HB.out.2.1⟩
/-- The world behind some of the examples. -/
def RuS (r : Nat) (w W : World) : Prop := SGr r W ∧ Below w.heap.size w W
theorem RuS.step {r : Nat} {w W V : World} (h : RuS r w W) (hb : Below W.heap.size W V) : RuS r w V := ⟨h.1.below hb, h.2.trans (hb.mono h.2.size)⟩
set_option maxHeartbeats 4000000 in
set_option maxRecDepth 100000 in
theorem ruled_any (r : Nat) (w : World) (hS : SGr r w) : Calls Tryd.prog 9 #[] w (BoolP true w) := by
  have H0 := hide (show RuS r w w from ⟨hS, Below.refl _ _⟩)
  clear hS
  go_enter Tryd.func9, Tryd.ntmps9
  go_wp2_with fail
  refine (again_yes r _ _ _ H0.out.1 (by decide +kernel)).mono ?_; rintro e w1 ⟨rfl, hb⟩
  have H1 := hide (H0.out.step hb)
  clear hb
  go_wp2_with fail
  refine (again_yes r _ _ _ H1.out.1 (by decide +kernel)).mono ?_; rintro e w2 ⟨rfl, hb⟩
  have H2 := hide (H1.out.step hb)
  clear hb
  go_wp2_with fail
  refine (again_yes r _ _ _ H2.out.1 (by decide +kernel)).mono ?_; rintro e w3 ⟨rfl, hb⟩
  have H3 := hide (H2.out.step hb)
  clear hb
  go_wp2_with fail
  refine (again_yes r _ _ _ H3.out.1 (by decide +kernel)).mono ?_; rintro e w4 ⟨rfl, hb⟩
  have H4 := hide (H3.out.step hb)
  clear hb
  go_wp2_with fail
  refine (again_yes r _ _ _ H4.out.1 (by decide +kernel)).mono ?_; rintro e w5 ⟨rfl, hb⟩
  have H5 := hide (H4.out.step hb)
  clear hb
  go_wp2_with fail
  refine (again_yes r _ _ _ H5.out.1 (by decide +kernel)).mono ?_; rintro e w6 ⟨rfl, hb⟩
  have H6 := hide (H5.out.step hb)
  clear hb
  go_wp2_with fail
  refine (again_yes r _ _ _ H6.out.1 (by decide +kernel)).mono ?_; rintro e w7 ⟨rfl, hb⟩
  have H7 := hide (H6.out.step hb)
  clear hb
  go_wp2_with fail
  refine (no_yes r _ _ H7.out.1 (by decide +kernel)).mono ?_; rintro e w8 ⟨rfl, hb⟩
  have H8 := hide (H7.out.step hb)
  clear hb
  go_wp2_with fail
  refine (no_yes r _ _ H8.out.1 (by decide +kernel)).mono ?_; rintro e w9 ⟨rfl, hb⟩
  have H9 := hide (H8.out.step hb)
  clear hb
  go_wp2_with fail
  refine (no_yes r _ _ H9.out.1 (by decide +kernel)).mono ?_; rintro e w10 ⟨rfl, hb⟩
  have H10 := hide (H9.out.step hb)
  clear hb
  go_wp2_with fail
  refine (no_yes r _ _ H10.out.1 (by decide +kernel)).mono ?_; rintro e w11 ⟨rfl, hb⟩
  have H11 := hide (H10.out.step hb)
  clear hb
  go_wp2_with fail
  refine (no_yes r _ _ H11.out.1 (by decide +kernel)).mono ?_; rintro e w12 ⟨rfl, hb⟩
  have H12 := hide (H11.out.step hb)
  clear hb
  go_wp2_with fail
  refine (again_yes r _ _ _ H12.out.1 (by decide +kernel)).mono ?_; rintro e w13 ⟨rfl, hb⟩
  have H13 := hide (H12.out.step hb)
  clear hb
  go_wp2_with fail
  refine (again_yes r _ _ _ H13.out.1 (by decide +kernel)).mono ?_; rintro e w14 ⟨rfl, hb⟩
  have H14 := hide (H13.out.step hb)
  clear hb
  go_wp2
  go_ret
  exact ⟨rfl, H14.out.2⟩
end Go.Proofs.YtfamoikmfbpigaaDoor
namespace Go.Proofs.YtfamoikmfbpigaaDoor
open Go.RowKit

set_option maxHeartbeats 2000000 in
set_option maxRecDepth 100000 in
theorem parse_wide (s : ByteArray) (w : World) (hm : 200 < s.size) (hM : s.size ≤ maxLen) :
    Calls Tryd.prog 10 #[.string s] w fun e w' => ∃ cs, e = .returned (.tuple #[.agg cs.toArray, .int .i64 ((parseP s).2 : Int)]) ∧ NdAt w.heap.size w' (parseP s).1 cs ∧ Below w.heap.size w w' := by
  have HP := hide (show parseP s = (.mk 0 noSet [], 3) by unfold parseP; rw [if_pos hm])
  unfold maxLen at hM
  have q1 : (200 : Int) < (s.size : Int) := by omega
  have e1 : (w.alloc (.cells (ndL 0 noSet (.slice none 0 0)).toArray 27)).heap.size = w.heap.size + 1 := by simp
  have b1 : Below w.heap.size w (w.alloc (.cells (ndL 0 noSet (.slice none 0 0)).toArray 27)) := (Below.refl _ _).alloc (Nat.le_refl _) _
  obtain ⟨W1, h1⟩ : ∃ W, w.alloc (.cells (ndL 0 noSet (.slice none 0 0)).toArray 27) = W := ⟨_, rfl⟩
  have k1 : Blk W1 w.heap.size 27 (ndL 0 noSet (.slice none 0 0)) := by rw [← h1]; exact Blk.new _ _ _
  rw [h1] at e1 b1
  have b2 : Below W1.heap.size W1 (W1.alloc (.cells [.int .i64 3].toArray 28)) := (Below.refl _ _).alloc (Nat.le_refl _) _
  obtain ⟨W2, h2⟩ : ∃ W, W1.alloc (.cells [.int .i64 3].toArray 28) = W := ⟨_, rfl⟩
  have k2 : Blk W2 (w.heap.size + 1) 28 [.int .i64 3] := by rw [← h2, ← e1]; exact Blk.new _ _ _
  rw [h2] at b2
  have K1 := hide (k1.below b2)
  have K2 := hide k2
  have KB := hide (b1.trans (b2.mono b1.size))
  have hmf : ∀ (fn : Fn) (first cap : Array Value) (w : World), (Instr.makeFunc fn first cap).run Tryd.prog w = .ok (.func fn first cap) w := fun _ _ _ _ => rfl
  clear e1 b1 b2 k1 k2
  have H1 := hide h1
  have H2 := hide h2
  clear h1 h2
  go_enter_defers Tryd.func10, Tryd.ntmps10
  go_wp2
  rw [show w.alloc (.cells #[.int .i64 0, .int .u64 0, .int .u64 0, .int .u64 0, .int .u64 0, .slice none 0 0] 27) = W1 from H1.out]
  rw [show W1.alloc (.cells #[.int .i64 3] 28) = W2 from H2.out]
  refine ⟨_, results_pa _ _ w.heap.size (w.heap.size + 1) _ 3 rfl rfl K1.out rfl K2.out, _, by rw [HP.out]; rfl, by rw [HP.out]; exact NdAt.leaf _ _ 0 noSet_w, KB.out⟩
theorem parse_all (r : Nat) (s : ByteArray) (w : World) (hM : s.size ≤ maxLen) (hS : SGr r w) :
    Calls Tryd.prog 10 #[.string s] w fun e w' => ∃ cs, e = .returned (.tuple #[.agg cs.toArray, .int .i64 ((parseP s).2 : Int)]) ∧ NdAt w.heap.size w' (parseP s).1 cs ∧ Below w.heap.size w w' := by
  by_cases hm : 200 < s.size
  · exact parse_wide s w hm hM
  · exact parse_any r s w (by omega) hS
/-- A box with a node, and what stays. -/
def OneB (r : Nat) (w W : World) (y : Nat) (n : Nd) (cs : List Value) (P : Nat → Prop) : Prop := Blk W y 27 cs ∧ NdX P W n cs ∧ Below w.heap.size w W ∧ SGr r W
theorem OneB.low {r : Nat} {w W V : World} {y : Nat} {n : Nd} {cs : List Value} {P : Nat → Prop} (h : OneB r w W y n cs P) (hb : Below W.heap.size W V) : OneB r w V y n cs P :=
  ⟨h.1.below hb, h.2.1.low hb, h.2.2.1.trans (hb.mono h.2.2.1.size), h.2.2.2.below hb⟩
/-- What is read of what is shown: all that the laws ask. -/
theorem whole_cases (n : Nd) (hw : wN n) : (wholeE n = [] ) ∨ (rmayE n = true ∧ wholeE n = showE n ∧ 1 ≤ (wholeE n).length ∧ (200 < (wholeE n).length ∨ (wholeE n).length ≤ 200 ∧ parseP (bl (wholeE n)) = (n, 0))) := by
  unfold wholeE
  split
  · rename_i h
    refine .inr ⟨h.1, rfl, show_pos h.1, ?_⟩
    by_cases hl : 200 < (showE n).length
    · exact .inl hl
    · exact .inr ⟨by omega, parse_show n h.1 hw (by omega)⟩
  · exact .inl rfl
set_option maxHeartbeats 4000000 in
set_option maxRecDepth 100000 in
theorem lawNode (r : Nat) (n : Nd) (cs : List Value) (P : Nat → Prop) (w : World) (hn : NdX P w n cs) (hS : SGr r w) :
    Calls Tryd.prog 7 #[.agg cs.toArray] w fun e W' => e = .returned (.bool true) ∧ Below w.heap.size w W' := by
  have hways := whole_cases n (NdX.sets n cs hn)
  obtain ⟨k, x0, x1, x2, x3, A, m, cap, rfl, -, -⟩ := hn.form
  have HO0 := hide (show OneB r w (w.alloc (.cells (ndL k [x0, x1, x2, x3] (.slice A m cap)).toArray 27)) w.heap.size n _ P from ⟨Blk.new _ _ _, hn.low ((Below.refl _ _).alloc (Nat.le_refl _) _), (Below.refl _ _).alloc (Nat.le_refl _) _, hS.below ((Below.refl _ _).alloc (Nat.le_refl _) _)⟩)
  have HMA := hide (fun (W : World) (h : NdX P W n (ndL k [x0, x1, x2, x3] (.slice A m cap))) => show Calls Tryd.prog 15 #[.agg #[.int .i64 k, .int .u64 (x0 : Int), .int .u64 (x1 : Int), .int .u64 (x2 : Int), .int .u64 (x3 : Int), .slice A m cap], .int .i64 250] W (NatP (manyE 250 n) W) from many_any 250 n _ P W (by omega) h)
  have hza := fun h => (many_sz 250 n h).1
  have hla := many_le 250 n
  obtain ⟨q, hq⟩ : ∃ q, manyE 250 n = q := ⟨_, rfl⟩
  rw [hq] at HMA hza hla
  have HZA := hide (show q ≤ 300 → szN n ≤ 300 from fun h => by have := hza h; omega)
  clear hza hq
  obtain ⟨s, hs⟩ : ∃ s : ByteArray, bl (wholeE n) = s := ⟨_, rfl⟩
  have hsl : s.size = (wholeE n).length := by rw [← hs]; rfl
  have HSH := hide (fun (W : World) (hz : szN n ≤ 2000) (h : NdX P W n (ndL k [x0, x1, x2, x3] (.slice A m cap))) => show Calls Tryd.prog 16 #[.agg #[.int .i64 k, .int .u64 (x0 : Int), .int .u64 (x1 : Int), .int .u64 (x2 : Int), .int .u64 (x3 : Int), .slice A m cap]] W (fun e w' => e = .returned (.string s) ∧ Below W.heap.size W w') from by rw [← hs]; exact whole_any n _ P W hz h)
  have hlen : szN n ≤ 300 → s.size ≤ 800000 := fun hz => by
    rw [hsl]
    rcases hways with h | ⟨-, h, -⟩
    · rw [h]; simp
    · rw [h]; have := show_len n; omega
  have HLN := hide hlen
  have HC := hide (show s = ⟨#[]⟩ ∨ (1 ≤ s.size ∧ (200 < s.size ∨ s.size ≤ 200 ∧ parseP s = (n, 0))) from by
    rw [hsl, ← hs]
    rcases hways with h | ⟨-, -, h1, h2⟩
    · left; rw [h]
    · exact .inr ⟨h1, h2⟩)
  clear hlen hsl hs hways hn hS
  rw [show (ndL k [x0, x1, x2, x3] (.slice A m cap)).toArray = #[.int .i64 k, .int .u64 (x0 : Int), .int .u64 (x1 : Int), .int .u64 (x2 : Int), .int .u64 (x3 : Int), .slice A m cap] from rfl] at HO0 ⊢
  go_enter Tryd.func7, Tryd.ntmps7
  go_wp2_with fail
  refine (HMA.out _ HO0.out.2.1).mono ?_; rintro e w1 ⟨rfl, hb1⟩
  have HO1 := hide (HO0.out.low hb1)
  clear HO0 hb1
  by_cases h1 : 300 < q
  · go_wp2_with fail
    refine (ruled_any r _ HO1.out.2.2.2).mono ?_; rintro e w2 ⟨rfl, hb2⟩
    go_wp2
    go_ret
    exact ⟨rfl, HO1.out.2.2.1.trans (hb2.mono HO1.out.2.2.1.size)⟩
  have HZ2 := hide (HZA.out (by omega))
  have c0 := HO1.out.1.cell (i := 0) rfl
  have c1 := HO1.out.1.cell (i := 1) rfl
  have c2 := HO1.out.1.cell (i := 2) rfl
  have c3 := HO1.out.1.cell (i := 3) rfl
  have c4 := HO1.out.1.cell (i := 4) rfl
  have c5 := HO1.out.1.cell (i := 5) rfl
  go_wp2_with fail
  refine (HSH.out _ (by have := HZ2.out; omega) HO1.out.2.1).mono ?_; rintro e w2 ⟨rfl, hb2⟩
  have HO2 := hide (HO1.out.low hb2)
  have hsz := HLN.out HZ2.out
  clear HO1 hb2 HLN c0 c1 c2 c3 c4 c5
  rcases HC.out with h0 | ⟨hp, hway⟩
  · clear HC
    subst h0
    go_wp2_with fail
    refine (ruled_any r _ HO2.out.2.2.2).mono ?_; rintro e w3 ⟨rfl, hb3⟩
    go_wp2
    go_ret
    exact ⟨rfl, HO2.out.2.2.1.trans (hb3.mono HO2.out.2.2.1.size)⟩
  have hne := ne_emp (s := s) (by omega)
  clear HC
  by_cases h2 : 200 < s.size
  · clear hway
    go_wp2_with fail
    refine (ruled_any r _ HO2.out.2.2.2).mono ?_; rintro e w3 ⟨rfl, hb3⟩
    go_wp2
    go_ret
    exact ⟨rfl, HO2.out.2.2.1.trans (hb3.mono HO2.out.2.2.1.size)⟩
  have HP := hide (hway.resolve_left h2).2
  clear hway
  have HPA := hide (fun W (h : SGr r W) => show Calls Tryd.prog 10 #[.string s] W fun e w' => ∃ cs, e = .returned (.tuple #[.agg cs.toArray, .int .i64 0]) ∧ NdAt W.heap.size w' n cs ∧ Below W.heap.size W w' from by
    have := parse_any r s W (by omega) h
    rw [HP.out] at this
    exact this)
  go_wp2_with fail
  refine (HPA.out _ HO2.out.2.2.2).mono ?_; rintro e w3 ⟨ds, rfl, hn3, hb3⟩
  have HO3 := hide (HO2.out.low hb3)
  have hx := NdX.of _ _ hn3
  obtain ⟨k', y0, y1, y2, y3, A', m', cap', rfl, -, -⟩ := hx.form
  have HN := hide (box_any hx (Below.refl _ _))
  have HO4 := hide (HO3.out.low HN.out.2.1)
  clear HO2 HO3 hn3 hx hb3
  rw [show (ndL k' [y0, y1, y2, y3] (.slice A' m' cap')).toArray = #[.int .i64 k', .int .u64 (y0 : Int), .int .u64 (y1 : Int), .int .u64 (y2 : Int), .int .u64 (y3 : Int), .slice A' m' cap'] from rfl] at HN HO4 ⊢
  have HSA := hide (same_any (szN n + 1) n n _ _ _ _ _ (by omega) HO4.out.2.1 HN.out.1)
  rw [show (ndL k [x0, x1, x2, x3] (.slice A m cap)).toArray = #[.int .i64 k, .int .u64 (x0 : Int), .int .u64 (x1 : Int), .int .u64 (x2 : Int), .int .u64 (x3 : Int), .slice A m cap] from rfl, show (ndL k' [y0, y1, y2, y3] (.slice A' m' cap')).toArray = #[.int .i64 k', .int .u64 (y0 : Int), .int .u64 (y1 : Int), .int .u64 (y2 : Int), .int .u64 (y3 : Int), .slice A' m' cap'] from rfl] at HSA
  have c0 := HO4.out.1.cell (i := 0) rfl
  have c1 := HO4.out.1.cell (i := 1) rfl
  have c2 := HO4.out.1.cell (i := 2) rfl
  have c3 := HO4.out.1.cell (i := 3) rfl
  have c4 := HO4.out.1.cell (i := 4) rfl
  have c5 := HO4.out.1.cell (i := 5) rfl
  go_wp2_with fail
  refine HSA.out.mono ?_; rintro e w5 ⟨b5, rfl, hb, hb5⟩
  obtain rfl := hb.2 rfl
  have HO5 := hide (HO4.out.low hb5)
  clear HO4 hb5 hb c0 c1 c2 c3 c4 c5
  go_wp2_with fail
  refine (ruled_any r _ HO5.out.2.2.2).mono ?_; rintro e w6 ⟨rfl, hb6⟩
  go_wp2
  go_ret
  exact ⟨rfl, HO5.out.2.2.1.trans (hb6.mono HO5.out.2.2.1.size)⟩
end Go.Proofs.YtfamoikmfbpigaaDoor
namespace Go.Proofs.YtfamoikmfbpigaaDoor
open Go.RowKit

set_option maxHeartbeats 4000000 in
set_option maxRecDepth 100000 in
theorem rsame_any : ∀ (f : Nat) (n m : Nd) (cs ds : List Value) (P Q : Nat → Prop) (w : World), szN n < f → NdX P w n cs → NdX Q w m ds →
    Calls Tryd.prog 12 #[.agg cs.toArray, .agg ds.toArray] w (SameP n m w)
  | 0, _, _, _, _, _, _, _, hf, _, _ => absurd hf (by omega)
  | f + 1, .mk k S L, .mk k' S' L', cs, ds, P, Q, w, hf, hn, hm => by
    obtain ⟨x0, x1, x2, x3, A, cap, rfl, rfl, hw, hc, hcm, hkids⟩ := hn.parts
    obtain ⟨y0, y1, y2, y3, A', cap', rfl, rfl, hw', hc', hcm', hkids'⟩ := hm.parts
    have IH := hide (fun (n m : Nd) (cs ds : List Value) (W : World) (h1 : szN n < f) (h2 : NdX P W n cs) (h3 : NdX Q W m ds) => rsame_any f n m cs ds P Q W h1 h2 h3)
    have HK := hide hkids
    have HK' := hide hkids'
    obtain ⟨m, hm0⟩ : ∃ m, L.length = m := ⟨_, rfl⟩
    obtain ⟨m', hm0'⟩ : ∃ m, L'.length = m := ⟨_, rfl⟩
    have HM := hide hm0
    have HM' := hide hm0'
    have HF := hide (show szL L < f by unfold szN at hf; omega)
    rw [hm0] at hc ⊢
    rw [hm0'] at hc' ⊢
    have HBX := hide (two_box w 33 33 (ndL k [x0, x1, x2, x3] (.slice A m cap)) (ndL k' [y0, y1, y2, y3] (.slice A' m' cap')))
    clear hn hm hkids hkids' hw hw' hm0 hm0' hf
    unfold maxLen at hcm hcm'
    rw [show (ndL k [x0, x1, x2, x3] (.slice A m cap)).toArray = #[.int .i64 k, .int .u64 (x0 : Int), .int .u64 (x1 : Int), .int .u64 (x2 : Int), .int .u64 (x3 : Int), .slice A m cap] from rfl, show (ndL k' [y0, y1, y2, y3] (.slice A' m' cap')).toArray = #[.int .i64 k', .int .u64 (y0 : Int), .int .u64 (y1 : Int), .int .u64 (y2 : Int), .int .u64 (y3 : Int), .slice A' m' cap'] from rfl]
    by_cases hk : k = k'
    case neg =>
      have HR := hide (mk_ne_k (S := [x0, x1, x2, x3]) (S' := [y0, y1, y2, y3]) (L := L) (L' := L') hk)
      have q0 : (k != k') = true := by simpa using hk
      clear hk
      go_enter Tryd.func12, Tryd.ntmps12
      go_wp2
      go_ret
      exact SameP.no rfl HR.out HBX.out.2.2
    subst hk
    by_cases hs : [x0, x1, x2, x3] = [y0, y1, y2, y3]
    case neg =>
      have HR := hide (mk_ne_s (k := k) (k' := k) (L := L) (L' := L') hs)
      have q1 := eq4_ne hs
      clear hs
      go_enter Tryd.func12, Tryd.ntmps12
      go_wp2
      go_ret
      exact SameP.no rfl HR.out HBX.out.2.2
    injection hs with e0 e1; injection e1 with e1 e2; injection e2 with e2 e3; injection e3 with e3 _
    subst e0 e1 e2 e3
    have q1 := eq4_same x0 x1 x2 x3
    by_cases hmm : m = m'
    case neg =>
      have HR := hide (mk_ne_l (k := k) (k' := k) (S := [x0, x1, x2, x3]) (S' := [x0, x1, x2, x3]) (L := L) (L' := L') (fun e => hmm (by rw [← HM.out, ← HM'.out, e])))
      have q2 : ((m : Int) != (m' : Int)) = true := by simp; omega
      clear hmm
      go_enter Tryd.func12, Tryd.ntmps12
      go_wp2
      go_ret
      exact SameP.no rfl HR.out HBX.out.2.2
    subst hmm
    go_enter Tryd.func12, Tryd.ntmps12
    go_wp2
    rw [show (w.alloc (.cells #[.int .i64 k, .int .u64 (x0 : Int), .int .u64 (x1 : Int), .int .u64 (x2 : Int), .int .u64 (x3 : Int), .slice A m cap] 33)).alloc (.cells #[.int .i64 k, .int .u64 (x0 : Int), .int .u64 (x1 : Int), .int .u64 (x2 : Int), .int .u64 (x3 : Int), .slice A' m cap'] 33) = (w.alloc (.cells (ndL k [x0, x1, x2, x3] (.slice A m cap)).toArray 33)).alloc (.cells (ndL k [x0, x1, x2, x3] (.slice A' m cap')).toArray 33) from rfl]
    obtain ⟨W0, hW0⟩ : ∃ W, (w.alloc (.cells (ndL k [x0, x1, x2, x3] (.slice A m cap)).toArray 33)).alloc (.cells (ndL k [x0, x1, x2, x3] (.slice A' m cap')).toArray 33) = W := ⟨_, rfl⟩
    rw [hW0] at HBX ⊢
    clear hW0
    have HB0 := hide HBX.out.2.2
    have HX := hide HBX.out.1
    have HY := hide HBX.out.2.1
    clear HBX
    go_loopw [5] (fun iv wr => ∃ j : Nat, iv = .int .i64 j ∧ j ≤ m ∧ Hid (∀ i, i < j → L[i]? = L'[i]?) ∧ Hid (Blk wr w.heap.size 33 (ndL k [x0, x1, x2, x3] (.slice A m cap))) ∧ Hid (Blk wr (w.heap.size + 1) 33 (ndL k [x0, x1, x2, x3] (.slice A' m cap'))) ∧ Hid (Below w.heap.size w wr)) (fun iv _ => m - (intOf iv).toNat)
    case atStart => exact ⟨0, rfl, by omega, hide (fun i h => absurd h (by omega)), HX, HY, HB0⟩
    case round =>
      clear HX HY HB0
      obtain ⟨j, rfl, hj, HE, HX, HY, HB⟩ := hrel
      have a5 := HX.out.cell (i := 5) rfl
      by_cases hlt : j < m
      · obtain ⟨x, hx⟩ : ∃ x, L[j]? = some x := ⟨_, List.getElem?_eq_getElem (by rw [HM.out]; exact hlt)⟩
        obtain ⟨y, hy⟩ : ∃ y, L'[j]? = some y := ⟨_, List.getElem?_eq_getElem (by rw [HM'.out]; exact hlt)⟩
        obtain ⟨b, o, cx, rfl, hb, -, hcx, hnx⟩ := HK.out.get j x hx
        obtain ⟨b', o', cy, rfl, hb', -, hcy, hny⟩ := HK'.out.get j y hy
        obtain ⟨kx, u0, u1, u2, u3, Ax, mx, capx, rfl, -, -⟩ := hnx.form
        obtain ⟨ky, v0, v1, v2, v3, Ay, my, capy, rfl, -, -⟩ := hny.form
        have HCX := hide (fun (W : World) (hW : Below w.heap.size w W) i u (hu : (ndL kx [u0, u1, u2, u3] (.slice Ax mx capx))[i]? = some u) => show W.cell? ⟨b, o + j * 6 + i, none⟩ = some u from (hW.cell (p := ⟨b, o + j * 6 + i, none⟩) hb.2).trans (by have := hcx i u hu; rw [Nat.zero_add] at this; exact this))
        have HCY := hide (fun (W : World) (hW : Below w.heap.size w W) i u (hu : (ndL ky [v0, v1, v2, v3] (.slice Ay my capy))[i]? = some u) => show W.cell? ⟨b', o' + j * 6 + i, none⟩ = some u from (hW.cell (p := ⟨b', o' + j * 6 + i, none⟩) hb'.2).trans (by have := hcy i u hu; rw [Nat.zero_add] at this; exact this))
        have hsx : szN x < f := Nat.lt_of_le_of_lt (szL_at hx) HF.out
        have HI := hide (fun (W : World) (hW : Below w.heap.size w W) => IH.out x y _ _ W hsx (hnx.low hW) (hny.low hW))
        have HXY := hide (show L[j]? = L'[j]? ↔ x = y by rw [hx, hy]; exact ⟨fun e => Option.some.inj e, fun e => by rw [e]⟩)
        clear hx hy hcx hcy hnx hny hsx
        have b5 := HY.out.cell (i := 5) rfl
        have c0 := HCX.out wr HB.out 0 _ rfl
        have c1 := HCX.out wr HB.out 1 _ rfl
        have c2 := HCX.out wr HB.out 2 _ rfl
        have c3 := HCX.out wr HB.out 3 _ rfl
        have c4 := HCX.out wr HB.out 4 _ rfl
        have c5 := HCX.out wr HB.out 5 _ rfl
        have d0 := HCY.out wr HB.out 0 _ rfl
        have d1 := HCY.out wr HB.out 1 _ rfl
        have d2 := HCY.out wr HB.out 2 _ rfl
        have d3 := HCY.out wr HB.out 3 _ rfl
        have d4 := HCY.out wr HB.out 4 _ rfl
        have d5 := HCY.out wr HB.out 5 _ rfl
        have hj0 : (0 : Int) ≤ (j : Int) := by omega
        have hj1 : (j : Int) < (m : Int) := by omega
        go_wp2
        go_region_held3 (fun W => W.cell? ⟨w.heap.size, 5, none⟩ = some (.slice (some ⟨b, o, none⟩) m cap) ∧ W.cell? ⟨w.heap.size + 1, 5, none⟩ = some (.slice (some ⟨b', o', none⟩) m cap') ∧ W.cell? ⟨b, o + j * 6, none⟩ = some (.int .i64 kx) ∧ W.cell? ⟨b, o + j * 6 + 1, none⟩ = some (.int .u64 (u0 : Int)) ∧ W.cell? ⟨b, o + j * 6 + 2, none⟩ = some (.int .u64 (u1 : Int)) ∧ W.cell? ⟨b, o + j * 6 + 3, none⟩ = some (.int .u64 (u2 : Int)) ∧ W.cell? ⟨b, o + j * 6 + 4, none⟩ = some (.int .u64 (u3 : Int)) ∧ W.cell? ⟨b, o + j * 6 + 5, none⟩ = some (.slice Ax mx capx) ∧ W.cell? ⟨b', o' + j * 6, none⟩ = some (.int .i64 ky) ∧ W.cell? ⟨b', o' + j * 6 + 1, none⟩ = some (.int .u64 (v0 : Int)) ∧ W.cell? ⟨b', o' + j * 6 + 2, none⟩ = some (.int .u64 (v1 : Int)) ∧ W.cell? ⟨b', o' + j * 6 + 3, none⟩ = some (.int .u64 (v2 : Int)) ∧ W.cell? ⟨b', o' + j * 6 + 4, none⟩ = some (.int .u64 (v3 : Int)) ∧ W.cell? ⟨b', o' + j * 6 + 5, none⟩ = some (.slice Ay my capy))
          (first | exact ⟨a5, b5, c0, c1, c2, c3, c4, c5, d0, d1, d2, d3, d4, d5⟩ | (refine ⟨?_, ?_, ?_, ?_, ?_, ?_, ?_, ?_, ?_, ?_, ?_, ?_, ?_, ?_⟩ <;> first | exact (hb9.cell (World.block_lt_of_cell? _ _ a5)).trans a5 | exact (hb9.cell (World.block_lt_of_cell? _ _ b5)).trans b5 | exact (hb9.cell (World.block_lt_of_cell? _ _ c0)).trans c0 | exact (hb9.cell (World.block_lt_of_cell? _ _ c1)).trans c1 | exact (hb9.cell (World.block_lt_of_cell? _ _ c2)).trans c2 | exact (hb9.cell (World.block_lt_of_cell? _ _ c3)).trans c3 | exact (hb9.cell (World.block_lt_of_cell? _ _ c4)).trans c4 | exact (hb9.cell (World.block_lt_of_cell? _ _ c5)).trans c5 | exact (hb9.cell (World.block_lt_of_cell? _ _ d0)).trans d0 | exact (hb9.cell (World.block_lt_of_cell? _ _ d1)).trans d1 | exact (hb9.cell (World.block_lt_of_cell? _ _ d2)).trans d2 | exact (hb9.cell (World.block_lt_of_cell? _ _ d3)).trans d3 | exact (hb9.cell (World.block_lt_of_cell? _ _ d4)).trans d4 | exact (hb9.cell (World.block_lt_of_cell? _ _ d5)).trans d5))
          (first | (go_at_call 12; refine (HI.out wr.drew ((HB.out.trans ((Below.refl wr.heap.size wr).mono HB.out.size)).drew)).mono ?_; intro e w9 hp; obtain ⟨b9, rfl, hb9e, hb9⟩ := hp) | fail)
        have HXY9 := hide (hb9e.trans HXY.out.symm)
        have HX9 := hide ((show Blk wr.drew w.heap.size 33 (ndL k [x0, x1, x2, x3] (.slice (some ⟨b, o, none⟩) m cap)) from HX.out).below hb9)
        have HY9 := hide ((show Blk wr.drew (w.heap.size + 1) 33 (ndL k [x0, x1, x2, x3] (.slice (some ⟨b', o', none⟩) m cap')) from HY.out).below hb9)
        have HB9 := hide ((HB.out.trans ((Below.refl wr.heap.size wr).mono HB.out.size)).drew.trans (hb9.mono HB.out.size))
        clear hb9 hb9e HX HY HB a5 b5 c0 c1 c2 c3 c4 c5 d0 d1 d2 d3 d4 d5 HCX HCY HI HXY IH HK HK'
        cases b9 with
        | true =>
          go_wp2
          go_roundw
          case rel => exact ⟨j + 1, by go_num, by omega, hide (fun i hi => by
            rcases Nat.lt_or_ge i j with h | h
            · exact HE.out i h
            · obtain rfl : i = j := by omega
              exact HXY9.out.1 rfl), HX9, HY9, HB9⟩
          case measure => simp [intOf]; omega
        | false =>
          have HR := hide (mk_ne_l (k := k) (k' := k) (S := [x0, x1, x2, x3]) (S' := [x0, x1, x2, x3]) (L := L) (L' := L') (fun e => by
            have := HXY9.out.2 (by rw [e])
            cases this))
          go_wp2
          go_ret
          exact SameP.no rfl HR.out HB9.out
      · obtain rfl : j = m := by omega
        have HR := hide (show Nd.mk k [x0, x1, x2, x3] L = Nd.mk k [x0, x1, x2, x3] L' by
          congr 1
          apply List.ext_getElem?
          intro i
          rcases Nat.lt_or_ge i j with h | h
          · exact HE.out i h
          · rw [List.getElem?_eq_none (by rw [HM.out]; exact h), List.getElem?_eq_none (by rw [HM'.out]; exact h)])
        go_wp2
        go_ret
        exact SameP.yes rfl HR.out HB.out
end Go.Proofs.YtfamoikmfbpigaaDoor
