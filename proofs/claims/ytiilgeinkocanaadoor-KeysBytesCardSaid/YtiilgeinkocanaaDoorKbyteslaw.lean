/- The walk of KeysBytes. -/
import Derived.Test.YtiilgeinkocanaaDoorKpressed
import Derived.Test.YtiilgeinkocanaaDoorKput
namespace Go.Proofs.YtiilgeinkocanaaDoor
open Go.RowKit

theorem weigh_take {L : List Ky} {j : Nat} {k : Ky} (h : L[j]? = some k) : weighL (L.take (j + 1)) = weighL (L.take j) + weighK k := by
  rw [List.take_add_one, h, weighL_app]
  simp [weighL]
theorem weigh_le (L : List Ky) (j : Nat) : weighL (L.take j) ≤ weighL L := by
  have := weighL_app (L.take j) (L.drop j)
  rw [List.take_append_drop] at this
  omega
theorem one_ext {s : ByteArray} {k : Nat} (h : k < s.size) : (s.extract k (k + 1)).data.toList = [s[k]] := by
  simp only [ByteArray.data_extract, Array.toList_extract, List.extract_eq_take_drop]
  rw [List.drop_eq_getElem_cons (by simpa using h)]
  simp
  rfl
set_option maxRecDepth 100000 in
set_option maxHeartbeats 4000000 in
theorem keysBytes_walk (s : ByteArray) (w : World) (hs : s.size ≤ 9223372036854775807) (hU : UTabs w) (hT : WTabs w) : Calls Tryd.prog 3 #[.string s] w fun e w' => e = .returned (.bool true) ∧ Below w.heap.size w w' := by
  have HP := hide (fun W (hW : Below w.heap.size w W) => pressed_any W (hU.below hW) (hT.below hW))
  have HTO := hide (fun t (ht : ByteArray.size t ≤ 400000) => told_any t true w hU hT ht)
  clear hU hT
  by_cases h1 : 300 < s.size
  · have h1' : (300 : Int) < (s.size : Int) := by omega
    go_enter Tryd.func3, Tryd.ntmps3
    go_wp2_with fail
    refine (HP.out _ (Below.refl _ _)).mono ?_
    rintro e w1 ⟨rfl, hb1⟩
    have HB1 := hide hb1
    clear hb1
    go_wp2_with fail
    go_ret
    exact ⟨rfl, HB1.out⟩
  go_enter Tryd.func3, Tryd.ntmps3
  go_wp2_with fail
  go_loop [3, 4] (fun a i => ∃ (k : Nat) (acc : ByteArray), a = .string acc ∧ i = .int .i64 k ∧ k ≤ s.size ∧ acc.size ≤ k ∧ Hid (∀ c ∈ acc.data.toList, c ≠ 126)) (fun _ i => s.size - (intOf i).toNat)
  case atStart => exact ⟨0, ⟨#[]⟩, rfl, rfl, by omega, Nat.le_refl 0, hide (fun c hc => by simp at hc)⟩
  case round =>
    obtain ⟨k, acc, rfl, rfl, hk, hz, HA⟩ := hrel
    by_cases hlt : k < s.size
    · by_cases hc : s[k] = 126
      · have hc2 : ((s[k].toNat : Int) != 126) = false := by rw [hc]; rfl
        clear hc
        go_wp2_with fail
        go_round
        case rel => exact ⟨k + 1, acc, rfl, by go_num, by omega, by omega, HA⟩
        case measure => simp [intOf]; omega
      · have hc2 : ((s[k].toNat : Int) != 126) = true := by
          simp only [bne_iff_ne, ne_eq]
          intro e
          apply hc
          apply UInt8.toNat_inj.1
          show (s[k]).toNat = 126
          omega
        have HX := hide (one_ext hlt)
        have HC := hide hc
        clear hc
        obtain ⟨x, hx⟩ : ∃ x, s.extract k (k + 1) = x := ⟨_, rfl⟩
        have hxz : x.size = 1 := by rw [← hx, ByteArray.size_extract]; omega
        rw [hx] at HX
        go_wp2_with fail
        go_round
        case rel => exact ⟨k + 1, acc ++ x, rfl, by go_num, by omega, by rw [join_size]; omega, hide (fun c hm => by
          rw [ByteArray.data_append, Array.toList_append, HX.out] at hm
          rcases List.mem_append.1 hm with h | h
          · exact HA.out c h
          · rw [List.mem_singleton.1 h]; exact HC.out)⟩
        case measure => simp [intOf]; omega
    · have HW := hide (told_weigh acc HA.out)
      have hz3 : acc.size ≤ 300 := by omega
      go_wp2_with fail
      refine (HTO.out acc (by omega)).mono ?_
      rintro e w1 ⟨v, rfl, ho, hn, hb1⟩
      have hkv := ho.keys hn
      have HB1 := hide hb1
      have HL9 := hide (told_len acc true)
      clear ho hn hb1
      obtain ⟨L, hL⟩ : ∃ L, toldK acc true = L := ⟨_, rfl⟩
      rw [hL] at hkv HW HL9
      clear hL
      obtain ⟨A, c, rfl, hc, -, hr⟩ := hkv
      have HR := hide hr
      clear hr
      obtain ⟨n, hn⟩ : ∃ n, L.length = n := ⟨_, rfl⟩
      have HN := hide hn
      rw [hn] at hc ⊢
      have hn9 : n ≤ 1000 := by have := HL9.out; omega
      clear hn
      go_wp2_with fail
      go_loop [6, 7] (fun a i => ∃ (j z : Nat), a = .int .i64 z ∧ i = .int .i64 j ∧ j ≤ n ∧ z ≤ 300 ∧ Hid (weighL (L.take j) = z)) (fun _ i => n - (intOf i).toNat)
      case atStart => exact ⟨0, 0, rfl, rfl, by omega, by omega, hide (by simp [weighL])⟩
      case round =>
        obtain ⟨j, z, rfl, rfl, hj, hz9, HZ⟩ := hrel
        by_cases hlt2 : j < n
        · obtain ⟨q, hq⟩ : ∃ q, L[j]? = some q := ⟨_, List.getElem?_eq_getElem (by rw [HN.out]; exact hlt2)⟩
          obtain ⟨b, o, rfl, c0, c1, c2⟩ := row_at HR.out hq
          have hst := weigh_take hq
          have hle := weigh_le L (j + 1)
          rw [hst, HZ.out, HW.out] at hle
          rw [HZ.out] at hst
          clear hq
          obtain ⟨kd, r, t⟩ := q
          dsimp only at c0 c1 c2
          have hwk : weighK ⟨kd, r, t⟩ = if kd = 0 then t.size else if kd = 1 then (putS r).size else if kd = 7 then 1 + (putS r).size else if 8 ≤ kd ∧ kd ≤ 13 then 3 else 1 := rfl
          have HPUT := hide (fun W => cput_any r W)
          by_cases k0 : kd = 0
          · rw [hwk, if_pos k0] at hst hle
            have HST := hide hst
            have hl3 : z + t.size ≤ 300 := by omega
            clear hwk hst hle
            subst k0
            go_wp2_with fail
            go_round
            case rel => exact ⟨j + 1, z + t.size, by go_num, by go_num, by omega, hl3, HST⟩
            case measure => simp [intOf]; omega
          rw [if_neg k0] at hwk
          have b0 : (kd == 0) = false := by simpa using k0
          by_cases k1 : kd = 1
          · rw [hwk, if_pos k1] at hst hle
            have HST := hide hst
            have hl3 : z + (putS r).size ≤ 300 := by omega
            obtain ⟨u, hu⟩ : ∃ u, putS r = u := ⟨_, rfl⟩
            rw [hu] at HST hl3 HPUT
            clear hwk hst hle hu b0 k0
            subst k1
            go_wp2_with (go_at_call 11; refine (HPUT.out _).mono ?_; rintro e w9 ⟨rfl, hw9⟩; subst hw9)
            go_round
            case rel => exact ⟨j + 1, z + u.size, by go_num, by go_num, by omega, hl3, HST⟩
            case measure => simp [intOf]; omega
          rw [if_neg k1] at hwk
          have b1 : (kd == 1) = false := by simpa using k1
          by_cases k7 : kd = 7
          · rw [hwk, if_pos k7] at hst hle
            have HST := hide hst
            have hl3 : z + (1 + (putS r).size) ≤ 300 := by omega
            obtain ⟨u, hu⟩ : ∃ u, putS r = u := ⟨_, rfl⟩
            rw [hu] at HST hl3 HPUT
            clear hwk hst hle hu b0 b1 k0 k1
            subst k7
            go_wp2_with (go_at_call 11; refine (HPUT.out _).mono ?_; rintro e w9 ⟨rfl, hw9⟩; subst hw9)
            go_round
            case rel => exact ⟨j + 1, z + (1 + u.size), by go_num, by go_num, by omega, hl3, HST⟩
            case measure => simp [intOf]; omega
          rw [if_neg k7] at hwk
          have b7 : (kd == 7) = false := by simpa using k7
          by_cases k8 : 8 ≤ kd ∧ kd ≤ 13
          · rw [hwk, if_pos k8] at hst hle
            have HST := hide hst
            have hl3 : z + 3 ≤ 300 := by omega
            clear hwk hst hle b0 b1 b7 k0 k1 k7
            have hcs : kd = 8 ∨ kd = 9 ∨ kd = 10 ∨ kd = 11 ∨ kd = 12 ∨ kd = 13 := by omega
            clear k8
            rcases hcs with rfl | rfl | rfl | rfl | rfl | rfl
            all_goals
              go_wp2_with fail
              go_round
              case rel => exact ⟨j + 1, z + 3, by go_num, by go_num, by omega, hl3, HST⟩
              case measure => simp [intOf]; omega
          · rw [hwk, if_neg k8] at hst hle
            have HST := hide hst
            have hl3 : z + 1 ≤ 300 := by omega
            have b8 : (kd == 8) = false := by simp; omega
            have b9 : (kd == 9) = false := by simp; omega
            have b10 : (kd == 10) = false := by simp; omega
            have b11 : (kd == 11) = false := by simp; omega
            have b12 : (kd == 12) = false := by simp; omega
            have b13 : (kd == 13) = false := by simp; omega
            clear hwk hst hle k0 k1 k7 k8
            go_wp2_with fail
            go_round
            case rel => exact ⟨j + 1, z + 1, by go_num, by go_num, by omega, hl3, HST⟩
            case measure => simp [intOf]; omega
        · have hjn : j = n := by omega
          subst hjn
          have hzz : z = acc.size := by rw [← HZ.out, ← HW.out, List.take_of_length_le (by rw [HN.out]; exact Nat.le_refl _)]
          subst hzz
          go_wp2_with fail
          refine (HP.out _ HB1.out).mono ?_
          rintro e w6 ⟨rfl, hb6⟩
          have HB6 := hide (HB1.out.trans (hb6.mono HB1.out.size))
          clear hb6
          go_wp2_with fail
          go_ret
          exact ⟨rfl, HB6.out⟩
end Go.Proofs.YtiilgeinkocanaaDoor
