/- Contract of (*strings.Builder).WriteString, and of the function that it asks first. What the rows of a frame show; contract of limnerref06.Rows. -/
import Derived.Test.YtmemdhmjhckmaaaDoorZ7
import Derived.Test.YtmemdhmjhckmaaaDoorShelf
import Derived.Lib.Builder
import Derived.Lib.AppendStr
import Derived.Test.YtmemdhmjhckmaaaDoorZ23
import Derived.Test.YtmemdhmjhckmaaaDoorZ17
import Derived.Test.YtmemdhmjhckmaaaDoorZ2
namespace Go.Proofs.YtmemdhmjhckmaaaDoor
open Go.RowKit

theorem info_bld : (Tryd.prog.info? 98).map (·.size) = some 2 := by kernel_rfl
theorem info_byt : (Tryd.prog.info? 5).map (fun i => (i.zero, i.size, i.bytes)) = some (some (.int .u8 0), 1, 1) := by kernel_rfl
theorem lies_bld : liesAt Tryd.prog Tryd.prog.depth 98 (2 / Tryd.prog.cellsOf 98) 0 98 1 = true := by kernel_rfl
set_option maxRecDepth 100000 in
set_option maxHeartbeats 1000000 in
theorem check_used (b : Nat) (w : World) (h0 : w.cell? ⟨b, 0, none⟩ = some (.pointer (some ⟨b, 0, none⟩))) :
    Calls Tryd.prog 72 #[.pointer (some ⟨b, 0, none⟩)] w fun e w' => e = .returned (.tuple #[]) ∧ w' = w := by
  obtain ⟨j, hj, -⟩ := Option.map_eq_some_iff.1 info_bld
  go_enter Tryd.func72, Tryd.ntmps72
  go_wp2
  rw [Lib.run_neq_ptr_same w _ Tryd.underlying95 hj]
  go_wp2
  go_end0
  exact ⟨rfl, rfl⟩
set_option maxRecDepth 100000 in
set_option maxHeartbeats 1000000 in
theorem check_fresh (b : Nat) (w : World) (h0 : w.cell? ⟨b, 0, none⟩ = some (.pointer none)) (hsh : w.shape? b = some (98, 2)) (hfz : w.frozen? ⟨b, 0, none⟩ = false) :
    Calls Tryd.prog 72 #[.pointer (some ⟨b, 0, none⟩)] w fun e w' => e = .returned (.tuple #[]) ∧ w' = w.setCell ⟨b, 0, none⟩ (.pointer (some ⟨b, 0, none⟩)) := by
  obtain ⟨j, hj, hjs⟩ := Option.map_eq_some_iff.1 info_bld
  go_enter Tryd.func72, Tryd.ntmps72
  go_wp2
  rw [Lib.run_to_unsafe w ⟨b, 0, none⟩ Tryd.underlying95 Tryd.underlying141 hj (by rw [hjs]; decide) hsh (Nat.zero_lt_succ 1)]
  simp only [Result.andThen]
  rw [Oper.upon_value]
  go_wp2
  rw [run_callFunc_extern Tryd.func90 (by kernel_rfl) (by kernel_rfl) (by kernel_rfl) (e := Extern.AbiNoEscape.same) (by kernel_rfl)]
  rw [Lib.run_noEscape]
  simp only [Result.andThen]
  rw [Oper.upon_value]
  go_wp2
  rw [Lib.run_from_unsafe w ⟨b, 0, none⟩ Tryd.underlying141 Tryd.underlying95 hj hsh lies_bld]
  simp only [Result.andThen]
  rw [Oper.upon_value]
  go_wp2
  go_end0
  exact ⟨rfl, rfl⟩
theorem check_any (B b : Nat) (bs : List Value) (w : World) (h : Lib.IsBuilder 98 5 B b bs w) :
    Calls Tryd.prog 72 #[.pointer (some ⟨b, 0, none⟩)] w fun e w' => e = .returned (.tuple #[]) ∧ (Lib.BuilderAt 98 5 B b (.pointer (some ⟨b, 0, none⟩)) bs w' ∧ Below B w w') := by
  rcases h with h | h
  · exact (check_fresh b w h.cell0 h.shape h.frozen0).mono (by rintro e w' ⟨rfl, rfl⟩; exact ⟨rfl, h.used _, (Below.refl B w).setCell (p := ⟨b, 0, none⟩) h.1 _⟩)
  · exact (check_used b w h.cell0).mono (by rintro e w' ⟨rfl, rfl⟩; exact ⟨rfl, h, Below.refl B _⟩)
theorem own_slice {W : World} {B : Nat} {e : TypeId} {v : Value} {n : Nat} {xs : List Value} (h : W.ownsRow B e 1 v n xs) : ∃ ao n' cap, v = .slice ao n' cap := by
  rcases h.2 with ⟨hv, _⟩ | ⟨g, cap, cur, hv, _⟩
  · exact ⟨_, _, _, hv⟩
  · exact ⟨_, _, _, hv⟩
set_option maxRecDepth 100000 in
set_option maxHeartbeats 1000000 in
theorem write_any (B b : Nat) (bs : List Value) (s : ByteArray) (w : World) (h : Lib.IsBuilder 98 5 B b bs w) (hlen : bs.length + s.size ≤ 140737488355328) (hBw : B ≤ w.heap.size) :
    Calls Tryd.prog 40 #[.pointer (some ⟨b, 0, none⟩), .string s] w fun e w' => e = .returned (.tuple #[.int .i64 s.size, .nilIface]) ∧ (Lib.BuilderAt 98 5 B b (.pointer (some ⟨b, 0, none⟩)) (bs ++ Lib.strCells s) w' ∧ Below B w w') := by
  obtain ⟨i0, hi, hz0, hz1, hz2⟩ := info_parts info_byt
  have HB := hide h
  clear h
  go_enter Tryd.func40, Tryd.ntmps40
  go_wp2_with (first
    | (go_at_call 72; refine (check_any B b bs _ HB.out).mono ?_; rintro e w1 ⟨rfl, ⟨hB, v, hbk, hown, hne⟩, hb1⟩; have hv := hown.lt; have c1 : w1.cell? ⟨b, 1, none⟩ = some v := (by rw [Lib.cell_of_heap hbk]; rfl); have HOWN := hide hown; have HBK := hide hbk; have HNE := hide hne; have HB1 := hide hb1; have HLT := hide hv; clear hv hown hbk hne hb1)
    | (at_builtin; refine Lib.wpList_append_own_string _ rfl _ _ 96 9 rfl B 5 i0 Tryd.underlying96 Tryd.underlying9 hi hz0 hz1 hz2 _ _ _ rfl HOWN.out s rfl (by unfold maxLen; omega) (by omega) (by have := HB1.out.size; omega) ?_; intro v' w2 hown' hgrow _; have hlt := (Array.getElem?_eq_some_iff.1 HBK.out).1; have hb2 : w2.heap[b]? = some (.cells #[.pointer (some ⟨b, 0, none⟩), v] 98 (0, 0)) := (hgrow.block b hlt (fun e => HNE.out e.symm)).trans HBK.out; have d1 : w2.cell? ⟨b, 1, none⟩ = some v := (by rw [Lib.cell_of_heap hb2]; rfl); have f1 : w2.frozen? ⟨b, 1, none⟩ = false := Lib.frozen_of_heap hb2 1; have HOW2 := hide hown'; have HB2 := hide hb2; have HBB := hide (HB1.out.grown hgrow (by have := HB1.out.size; omega) (fun k hk => (HLT.out k hk).1)); obtain ⟨ao, n', cap, rfl⟩ := own_slice hown'; clear hown' hgrow hb2)
    | fail)
  go_ret2
  exact ⟨rfl, Lib.BuilderAt.put (T := 98) (e := 5) hB HB2.out (bs' := bs ++ Lib.strCells s) (by simpa [Lib.strCells_length] using HOW2.out) (by decide), HBB.out.setCell (p := ⟨b, 1, none⟩) hB _⟩
end Go.Proofs.YtmemdhmjhckmaaaDoor
namespace Go.Proofs.YtmemdhmjhckmaaaDoor
open Go.RowKit
set_option maxRecDepth 100000

/-- What a row shows. -/
def shB : List Cl → List UInt8
  | [] => []
  | c :: t => (if 0 < c.w then (putS c.r).data.toList else []) ++ shB t
theorem shB_app (l m : List Cl) : shB (l ++ m) = shB l ++ shB m := by
  induction l with
  | nil => rfl
  | cons a t ih => rw [List.cons_append, shB, shB, ih, List.append_assoc]
theorem shB_step {l : List Cl} {j : Nat} {c : Cl} (h : l[j]? = some c) : shB (l.take (j + 1)) = shB (l.take j) ++ if 0 < c.w then (putS c.r).data.toList else [] := by
  rw [List.take_add_one, h, shB_app]
  simp [shB]
theorem putS_le (r : Int) : (putS r).size ≤ 4 := by
  unfold putS
  split
  · have key : ∀ c : Nat, (if c < 0x80 then (⟨#[UInt8.ofNat c]⟩ : ByteArray) else if c < 0x800 then ⟨#[UInt8.ofNat (0xC0 + c / 64), UInt8.ofNat (0x80 + c % 64)]⟩ else if c < 0x10000 then ⟨#[UInt8.ofNat (0xE0 + c / 4096), UInt8.ofNat (0x80 + c / 64 % 64), UInt8.ofNat (0x80 + c % 64)]⟩ else ⟨#[UInt8.ofNat (0xF0 + c / 262144), UInt8.ofNat (0x80 + c / 4096 % 64), UInt8.ofNat (0x80 + c / 64 % 64), UInt8.ofNat (0x80 + c % 64)]⟩).size ≤ 4 := by
      intro c
      split
      · exact (show (1 : Nat) ≤ 4 by omega)
      split
      · exact (show (2 : Nat) ≤ 4 by omega)
      split
      · exact (show (3 : Nat) ≤ 4 by omega)
      · exact (show (4 : Nat) ≤ 4 by omega)
    exact key _
  · exact Nat.zero_le _
theorem shB_le : ∀ (l : List Cl), (shB l).length ≤ 4 * l.length
  | [] => by simp [shB]
  | c :: t => by
    have h1 := shB_le t
    have h2 : (putS c.r).data.toList.length ≤ 4 := by have := putS_le c.r; simpa using this
    rw [shB, List.length_append, List.length_cons]
    split
    · omega
    · simp; omega
def rowS (cs : List Cl) (C i : Nat) : ByteArray := ⟨(shB (rowL cs C i)).toArray⟩
def rowsTo (cs : List Cl) (C k : Nat) : List ByteArray := (List.range k).map fun i => rowS cs C i
theorem rowsTo_len (cs : List Cl) (C k : Nat) : (rowsTo cs C k).length = k := by simp [rowsTo]
theorem rowsTo_step (cs : List Cl) (C k : Nat) : rowsTo cs C (k + 1) = rowsTo cs C k ++ [rowS cs C k] := by
  unfold rowsTo
  rw [List.range_succ, List.map_append]
  rfl
def rowsF (f : Fr) : List ByteArray := if validF f = true then rowsTo f.cs f.cols.toNat f.rows.toNat else []
theorem rowsF_bad {f : Fr} (h : validF f = false) : rowsF f = [] := by unfold rowsF; rw [h]; rfl
theorem rowsF_ok {f : Fr} (h : validF f = true) : rowsF f = rowsTo f.cs f.cols.toNat f.rows.toNat := by unfold rowsF; rw [if_pos h]
/-- A slice of strings of the call's own. -/
def OwnS (W : World) (B : Nat) (v : Value) (L : List ByteArray) : Prop := W.ownsRow B 9 1 v L.length (L.map Value.string)
theorem OwnS.below {w W : World} {B : Nat} {v : Value} {L : List ByteArray} (h : OwnS w B v L) (hb : Below w.heap.size w W) : OwnS W B v L := by
  refine ⟨h.1, ?_⟩
  rcases h.2 with h0 | ⟨g, cap, cur, rfl, hg, hh, q⟩
  · exact .inl h0
  · exact .inr ⟨g, cap, cur, rfl, hg, (hb.block g (Array.getElem?_eq_some_iff.1 hh).1).trans hh, q⟩
theorem OwnS.formL {W : World} {B n : Nat} {v : Value} {L : List ByteArray} (h : OwnS W B v L) (hn : L.length = n) : ∃ A c, v = .slice A n c ∧ n ≤ c ∧ c ≤ maxLen := by
  subst hn
  rcases h.2 with ⟨rfl, h0⟩ | ⟨g, cap, cur, rfl, hg, hh, q, qm, _⟩
  · exact ⟨_, _, by rw [h0], by omega, by unfold maxLen; omega⟩
  · exact ⟨_, _, rfl, q, qm⟩
theorem OwnS.mono {W : World} {B C : Nat} {v : Value} {L : List ByteArray} (h : OwnS W B v L) (hc : C ≤ B) : OwnS W C v L := by
  refine ⟨h.1, ?_⟩
  rcases h.2 with h0 | ⟨g, cap, cur, rfl, hg, r⟩
  · exact .inl h0
  · exact .inr ⟨g, cap, cur, rfl, by omega, r⟩
theorem OwnS.low {W : World} {B : Nat} {v : Value} {L : List ByteArray} (h : OwnS W B v L) {p : Addr} (hp : p.block < B) (x : Value) : OwnS (W.setCell p x) B v L := by
  refine ⟨h.1, ?_⟩
  rcases h.2 with h0 | ⟨g, cap, cur, rfl, hg, hh, r⟩
  · exact .inl h0
  · exact .inr ⟨g, cap, cur, rfl, hg, (Below.heap_setCell _ _ _ _ (by omega)).trans hh, r⟩
theorem OwnS.putObj {W : World} {B l : Nat} {v : Value} {L : List ByteArray} (h : OwnS W B v L) (hp : l < B) (o : Obj) : OwnS (W.putObj l o) B v L := by
  refine ⟨h.1, ?_⟩
  rcases h.2 with h0 | ⟨g, cap, cur, rfl, hg, hh, r⟩
  · exact .inl h0
  · exact .inr ⟨g, cap, cur, rfl, hg, (World.putObj_heap_other (by omega)).trans hh, r⟩
theorem OwnS.nil (W : World) (B : Nat) : OwnS W B (.slice none 0 0) [] := ⟨rfl, .inl ⟨rfl, rfl⟩⟩
theorem info_strG : (Tryd.prog.info? 9).map (fun i => (i.zero, i.size, i.bytes)) = some (some (.string ⟨#[]⟩), 1, 16) := by kernel_rfl
/-- One string is hung on. -/
theorem app_str {W : World} {B : Nat} {v : Value} {L : List ByteArray} {s : ByteArray} {b c : Nat} (h : OwnS W B v L) (hs : W.cell? ⟨b, 0, none⟩ = some (.string s)) (hl : L.length ≤ 1000) (hB : B ≤ W.heap.size) (ty : TypeId) :
    ∃ v' w', (Builtin.append_ #[43, 43] ty #[v, .slice (some ⟨b, 0, none⟩) 1 c]).run Tryd.prog W = .ok v' w' ∧ OwnS w' B v' (L ++ [s]) ∧ Below B W w' := by
  obtain ⟨i0, hinf, hz0, hz1, hz2⟩ := info_parts info_strG
  obtain ⟨v', w', hrun, h1, h2, -⟩ := run_append_own (P := Tryd.prog) W B 43 ty 9 i0 _ 1 16 Tryd.underlying43 hinf hz0 hz1 hz2 (by rfl) (by decide) v L.length (L.map Value.string) h ⟨b, 0, none⟩ 1 c [.string s] (by rfl)
    (fun j u hu => by
      cases j with
      | zero => simp at hu; subst hu; exact hs
      | succ j => simp at hu) (by simp [Value.oneCell']) (by unfold maxLen; omega) (by omega) hB
  refine ⟨v', w', hrun, ?_, (Below.refl _ _).grown h2 hB (fun k e => (h.lt k e).1)⟩
  unfold OwnS
  rw [List.length_append, List.map_append]
  exact h1
theorem one_str (w : World) (s : ByteArray) : ∀ j u, ([.string s] : List Value)[j]? = some u → (w.alloc (.cells #[.string s] 9)).cell? ((⟨w.heap.size, 0, none⟩ : Addr).add j) = some u := by
  intro j u hu
  cases j with
  | zero => simp at hu; subst hu; simp [Addr.add]
  | succ j => simp at hu
theorem own_str1 {W : World} {B : Nat} {v : Value} {L : List ByteArray} {s : ByteArray} (h : W.ownsRow B 9 1 v (L.length + 1) (L.map Value.string ++ [.string s])) : OwnS W B v (L ++ [s]) := by
  unfold OwnS
  rw [List.length_append, List.map_append]
  exact h
theorem ret_same {a b : Value} (h : a = b) : Ending.returned a = .returned b := by rw [h]
end Go.Proofs.YtmemdhmjhckmaaaDoor
