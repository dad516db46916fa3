/-
  The walk of the reference's Parse: the roads joined.
-/
import Derived.Test.YtcfikdoejmgejaaDoorRPaWalkD
namespace Go.Proofs.YtcfikdoejmgejaaDoor
open Go.RowKit

set_option maxHeartbeats 1000000 in
theorem rparse_any (s : ByteArray) (w : World) (hs : s.size ≤ 100) :
    Calls Tryd.prog 26 #[.string s] w fun e w' => e = .returned (.tuple #[.int .i64 (parseE s.data.toList).1, .int .i64 (parseE s.data.toList).2]) ∧ w = w' := by
  rw [show parseE s.data.toList = rpM (negB s.data.toList) (Lib.trimPrefix s.data.toList [45]) from (rpM_eq _ _).symm]
  obtain ⟨T, neg, hneg, hT, hTs, hcase⟩ : ∃ (T : ByteArray) (neg : Bool), negB s.data.toList = neg ∧ Lib.trimPrefix s.data.toList [45] = T.data.toList ∧ T.size ≤ 100 ∧ PCase s T neg := by
    by_cases h0 : 0 < s.size
    · have hg := getD_at s 0 h0
      by_cases h45 : s[0]'h0 = 45
      · have hp : negB s.data.toList = true := by
          unfold negB Lib.hasPrefix
          cases hl : s.data.toList with
          | nil => have := size_list s; rw [hl] at this; simp at this; omega
          | cons b r =>
            rw [hl] at hg
            have e : b = 45 := by rw [← h45, ← hg]; rfl
            simp [List.isPrefixOf, e]
        refine ⟨s.extract 1 s.size, true, hp, ?_, by simp; omega, .inr (.inr ⟨rfl, h0, by rw [h45]; decide, rfl⟩)⟩
        unfold Lib.trimPrefix
        rw [if_pos (show Lib.hasPrefix s.data.toList [45] = true from hp), ext_list, List.take_of_length_le (by simp)]; rfl
      · have hp : negB s.data.toList = false := by
          unfold negB Lib.hasPrefix
          cases hl : s.data.toList with
          | nil => rfl
          | cons b r =>
            rw [hl] at hg
            have e : b = s[0]'h0 := by rw [← hg]; rfl
            simp only [List.isPrefixOf, Bool.and_eq_false_iff]; left; rw [beq_eq_false_iff_ne]; exact fun h => h45 (by rw [← e, ← h])
        refine ⟨s, false, hp, ?_, hs, .inr (.inl ⟨rfl, rfl, h0, by rw [beq_eq_false_iff_ne]; intro h; exact h45 (UInt8.toNat_inj.1 (show (s[0]'h0).toNat = 45 by omega))⟩)⟩
        unfold Lib.trimPrefix
        rw [if_neg (by rw [show Lib.hasPrefix s.data.toList [45] = false from hp]; simp)]
    · have hl : s.data.toList = [] := List.eq_nil_of_length_eq_zero (by rw [size_list]; omega)
      exact ⟨s, false, by rw [hl]; rfl, by rw [hl]; rfl, hs, .inl ⟨rfl, rfl, by omega⟩⟩
  rw [hneg, hT]
  have HN := Lib.hid hneg
  clear hneg hT
  obtain ⟨P, hP⟩ : ∃ P, P = rpM neg T.data.toList := ⟨_, rfl⟩
  rw [← hP]
  obtain ⟨k, hk⟩ : ∃ k, k = lead T.data.toList := ⟨_, rfl⟩
  have hkT : k ≤ T.size := by rw [hk, ← size_list]; exact lead_le _
  have HRD : Hid (DigP T (lead T.data.toList)) := Lib.hid fun W => rdigits_any T W (by omega)
  rw [← hk] at HRD
  have HK := Lib.hid hk
  have HP : Hid (P = if k < 1 ∨ 10 < k ∨ (1 < k ∧ T.data.toList.getD 0 0 = 48) then (0, 3)
    else if (T.data.toList.drop k).length = 0 then finE neg (1000 * val (T.data.toList.take k))
    else if (T.data.toList.drop k).getD 0 0 ≠ 46 ∨ (T.data.toList.drop k).length < 2 ∨ 4 < (T.data.toList.drop k).length ∨ lead ((T.data.toList.drop k).drop 1) ≠ (T.data.toList.drop k).length - 1 then (0, 3)
    else finE neg (1000 * val (T.data.toList.take k) + val (((T.data.toList.drop k).drop 1 ++ [48, 48]).take 3))) := Lib.hid (by rw [hP, hk]; rfl)
  clear hP hk
  by_cases hbad : k < 1 ∨ 10 < k ∨ (1 < k ∧ T.data.toList.getD 0 0 = 48)
  · have HB : Hid (P = (0, 3)) := Lib.hid (by rw [HP.out, if_pos hbad])
    have hb2 : k < 1 ∨ (1 ≤ k ∧ 10 < k) ∨ (1 < k ∧ k ≤ 10 ∧ ∃ h : 0 < T.size, (((T[0]'h).toNat : Int) == 48) = true) := by
      rcases hbad with h | h | ⟨h1, h2⟩
      · exact .inl h
      · exact .inr (.inl ⟨by omega, h⟩)
      · rcases Nat.lt_or_ge 10 k with h3 | h3
        · exact .inr (.inl ⟨by omega, h3⟩)
        · exact .inr (.inr ⟨h1, h3, by omega, by rw [← getD_at T 0 (by omega), h2]; decide⟩)
    exact rp_bad s T neg k P w hs hTs hcase hkT HRD HB hb2
  · have HP2 : Hid (P = if (T.data.toList.drop k).length = 0 then finE neg (1000 * val (T.data.toList.take k))
      else if (T.data.toList.drop k).getD 0 0 ≠ 46 ∨ (T.data.toList.drop k).length < 2 ∨ 4 < (T.data.toList.drop k).length ∨ lead ((T.data.toList.drop k).drop 1) ≠ (T.data.toList.drop k).length - 1 then (0, 3)
      else finE neg (1000 * val (T.data.toList.take k) + val (((T.data.toList.drop k).drop 1 ++ [48, 48]).take 3))) := Lib.hid (by rw [HP.out, if_neg hbad])
    have hk1 : 1 ≤ k := by omega
    have hk2 : k ≤ 10 := by omega
    have hT0 : 0 < T.size := by omega
    have hform : PForm T k := by
      rcases Nat.lt_or_ge 1 k with h | h
      · refine .inr ⟨h, hT0, ?_⟩
        rw [beq_eq_false_iff_ne]
        intro h2
        exact hbad (.inr (.inr ⟨h, by rw [getD_at T 0 hT0]; exact UInt8.toNat_inj.1 (show (T[0]'hT0).toNat = 48 by omega)⟩))
      · exact .inl (by omega)
    obtain ⟨U, hU⟩ : ∃ U, T.extract 0 k = U := ⟨_, rfl⟩
    obtain ⟨R, hR⟩ : ∃ R, T.extract k T.size = R := ⟨_, rfl⟩
    have hUl : U.data.toList = T.data.toList.take k := by rw [← hU, ext_list]; rfl
    have hRl : R.data.toList = T.data.toList.drop k := by rw [← hR, ext_list, List.take_of_length_le (by simp)]
    have hUd : ∀ c ∈ U.data.toList, isDig c = true := by
      rw [hUl]
      intro c hc
      obtain ⟨j, hj, rfl⟩ := List.getElem_of_mem hc
      have hj2 : j < k := by rw [List.length_take] at hj; omega
      have := lead_dig T.data.toList j (by rw [← HK.out]; exact hj2)
      rw [List.getD_eq_getElem?_getD, List.getElem?_eq_getElem (by rw [size_list]; omega)] at this
      rw [List.getElem_take]; exact this
    have hUs : U.size ≤ 10 := by rw [← size_list, hUl, List.length_take]; omega
    have hRs : R.size ≤ 100 := by rw [← size_list, hRl, List.length_drop, size_list]; omega
    obtain ⟨v1, v2⟩ := val_bd U.data.toList hUd
    have v3 : val U.data.toList < 10000000000 := by
      refine Int.lt_of_lt_of_le v2 ?_
      have h4 : (10 : Nat) ^ U.data.toList.length ≤ 10 ^ 10 := Nat.pow_le_pow_right (by omega) (by rw [size_list]; exact hUs)
      have h6 : ((10 : Int) ^ U.data.toList.length) = ((10 ^ U.data.toList.length : Nat) : Int) := by simp
      rw [h6]; omega
    clear v2
    have HV : Hid (ValP U (val U.data.toList)) := Lib.hid fun W => rvalue_any U W hUs hUd
    rw [← hUl, ← hRl] at HP2
    obtain ⟨v, hv⟩ : ∃ v, v = val U.data.toList := ⟨_, rfl⟩
    rw [← hv] at HV HP2 v1 v3
    obtain ⟨n1, hn1⟩ : ∃ n1, 1000 * v = n1 := ⟨_, rfl⟩
    have fn1 : IntKind.i64.wrap n1 = n1 := IntWalk.i64_in _ (by omega)
    have fn4 : IntKind.i64.wrap (-n1) = -n1 := IntWalk.i64_in _ (by omega)
    have hz1 : n1 = 0 ∨ ((n1 == 0) = false ∧ n1 ≠ 0) := by
      by_cases h : n1 = 0
      · exact .inl h
      · exact .inr ⟨by rw [beq_eq_false_iff_ne]; exact h, h⟩
    have HB1 : Hid (0 ≤ n1 ∧ n1 < 10000000000000) := Lib.hid ⟨by omega, by omega⟩
    rw [hn1] at HP2
    by_cases hr0 : R.size = 0
    · have HP3 : Hid (P = finE neg n1) := Lib.hid (by rw [HP2.out, if_pos (by rw [size_list]; exact hr0)])
      exact rp_r0 s T neg k P w hs hTs hcase hkT HRD hk1 hk2 hform U R v n1 hU hR hRs HV hn1 fn1 fn4 hz1 HP3 hr0
    · have hr1 : 0 < R.size := by omega
      have HP3 : Hid (P = if R.data.toList.getD 0 0 ≠ 46 ∨ R.data.toList.length < 2 ∨ 4 < R.data.toList.length ∨ lead (R.data.toList.drop 1) ≠ R.data.toList.length - 1 then (0, 3)
        else finE neg (n1 + val ((R.data.toList.drop 1 ++ [48, 48]).take 3))) := Lib.hid (by rw [HP2.out, if_neg (by rw [size_list]; exact hr0)])
      obtain ⟨F, hF⟩ : ∃ F, R.extract 1 R.size = F := ⟨_, rfl⟩
      have hFl : F.data.toList = R.data.toList.drop 1 := by rw [← hF, ext_list, List.take_of_length_le (by simp)]
      have hFs : F.size = R.size - 1 := by rw [← hF]; simp
      have HRF : Hid (DigP F (lead F.data.toList)) := Lib.hid fun W => rdigits_any F W (by omega)
      rw [← hFl, size_list, getD_at R 0 hr1] at HP3
      obtain ⟨L, hL⟩ : ∃ L, L = lead F.data.toList := ⟨_, rfl⟩
      rw [← hL] at HP3 HRF
      by_cases hb : R[0]'hr1 ≠ 46 ∨ R.size < 2 ∨ 4 < R.size ∨ L ≠ R.size - 1
      · have HB : Hid (P = (0, 3)) := Lib.hid (by rw [HP3.out, if_pos hb])
        by_cases h46 : R[0]'hr1 = 46
        · have hq : (((R[0]'hr1).toNat : Int) == 46) = true := by rw [h46]; decide
          have hqn : (((R[0]'hr1).toNat : Int) != 46) = false := by rw [h46]; decide
          rcases Nat.lt_or_ge R.size 2 with g | g
          · exact rp_second_b s T neg k P w hs hTs hcase hkT HRD hk1 hk2 hform U R v n1 hU hR hRs HV hn1 fn1 hr1 F L hF HRF HB ⟨hq, hqn, .inl (by omega)⟩
          · rcases Nat.lt_or_ge 4 R.size with g2 | g2
            · exact rp_second_b s T neg k P w hs hTs hcase hkT HRD hk1 hk2 hform U R v n1 hU hR hRs HV hn1 fn1 hr1 F L hF HRF HB ⟨hq, hqn, .inr ⟨by omega, by omega⟩⟩
            · have hb' : (L : Int) ≠ (R.size : Int) - 1 := by
                rcases hb with hb | hb | hb | hb
                · exact absurd h46 hb
                · omega
                · omega
                · omega
              exact rp_second_c s T neg k P w hs hTs hcase hkT HRD hk1 hk2 hform U R v n1 hU hR hRs HV hn1 fn1 hr1 F L hF HRF HB ⟨hq, hqn, by omega, by omega, by rw [beq_eq_false_iff_ne]; exact hb', by rw [bne_iff_ne]; exact hb'⟩
        · refine rp_second_a s T neg k P w hs hTs hcase hkT HRD hk1 hk2 hform U R v n1 hU hR hRs HV hn1 fn1 hr1 F L hF HRF HB ?_
          have hne : ((R[0]'hr1).toNat : Int) ≠ 46 := fun h => h46 (UInt8.toNat_inj.1 (show (R[0]'hr1).toNat = 46 by omega))
          exact ⟨by rw [beq_eq_false_iff_ne]; exact hne, by rw [bne_iff_ne]; exact hne⟩
      · have HP4 : Hid (P = finE neg (n1 + val ((F.data.toList ++ [48, 48]).take 3))) := Lib.hid (by rw [HP3.out, if_neg hb])
        have h46 : (((R[0]'hr1).toNat : Int) == 46) = true := by
          rw [show R[0]'hr1 = 46 from Classical.byContradiction fun h => hb (.inl h)]; decide
        have hn46 : (((R[0]'hr1).toNat : Int) != 46) = false := by
          rw [show R[0]'hr1 = 46 from Classical.byContradiction fun h => hb (.inl h)]; decide
        have g1 : 2 ≤ (R.size : Int) := by omega
        have g2 : (R.size : Int) ≤ 4 := by omega
        have g3 : (L : Int) = (R.size : Int) - 1 := by omega
        have hFd : ∀ c ∈ F.data.toList, isDig c = true := lead_eq_len (by rw [← hL, size_list]; omega)
        obtain ⟨G, hG⟩ : ∃ G, (F ++ ⟨#[48, 48]⟩).extract 0 3 = G := ⟨_, rfl⟩
        have hGl : G.data.toList = (F.data.toList ++ [48, 48]).take 3 := by rw [← hG, ext_list]; simp
        have hGd : ∀ c ∈ G.data.toList, isDig c = true := by
          rw [hGl]
          intro c hc
          rcases List.mem_append.1 (List.mem_of_mem_take hc) with h | h
          · exact hFd c h
          · simp at h; subst h; decide
        have hGs : G.size ≤ 3 := by rw [← size_list, hGl, List.length_take]; omega
        obtain ⟨b1, b2⟩ := val_bd G.data.toList hGd
        have b3 : val G.data.toList < 1000 := by
          refine Int.lt_of_lt_of_le b2 ?_
          have h4 : (10 : Nat) ^ G.data.toList.length ≤ 10 ^ 3 := Nat.pow_le_pow_right (by omega) (by rw [size_list]; exact hGs)
          have h6 : ((10 : Int) ^ G.data.toList.length) = ((10 ^ G.data.toList.length : Nat) : Int) := by simp
          rw [h6]; omega
        have HVG : Hid (ValP G (val G.data.toList)) := Lib.hid fun W => rvalue_any G W (by omega) hGd
        rw [← hGl] at HP4
        obtain ⟨g, hg⟩ : ∃ g, g = val G.data.toList := ⟨_, rfl⟩
        rw [← hg] at HVG HP4 b1 b3
        obtain ⟨b4, b5⟩ := HB1.out
        obtain ⟨n2, hn2⟩ : ∃ n2, n1 + g = n2 := ⟨_, rfl⟩
        have fn2 : IntKind.i64.wrap n2 = n2 := IntWalk.i64_in _ (by omega)
        have fn3 : IntKind.i64.wrap (-n2) = -n2 := IntWalk.i64_in _ (by omega)
        have hz2 : n2 = 0 ∨ ((n2 == 0) = false ∧ n2 ≠ 0) := by
          by_cases h : n2 = 0
          · exact .inl h
          · exact .inr ⟨by rw [beq_eq_false_iff_ne]; exact h, h⟩
        rw [hn2] at HP4
        have hF1 : 1 ≤ F.size := by omega
        have hF3 : F.size ≤ 3 := by omega
        exact rp_good s T neg k P w hs hTs hcase hkT HRD hk1 hk2 hform U R v n1 hU hR hRs HV hn1 fn1 hr1 F L hF HRF h46 hn46 g1 g2 g3 G g n2 hG HVG hn2 fn2 fn3 hz2 HP4 hF1 hF3
end Go.Proofs.YtcfikdoejmgejaaDoor
