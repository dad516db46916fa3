/-
  The walk of the reference's product of any two numbers.
-/
import Derived.Test.YtcfikdoejmgejaaDoorMulAny
namespace Go.Proofs.YtcfikdoejmgejaaDoor
open Go.RowKit

theorem rmul_val2 (m n : Nat) : ((m / 1000 : Nat) : Int) * n + (2 * ((m % 1000 : Nat) : Int) * n + 1000) / 2000 = (((m * n + 500) / 1000 : Nat) : Int) := by
  rw [← rmul_eq]
  simp
theorem rmul_big (m k : Nat) (h0 : 0 < m / 1000) (h : 1125899906842624 / (m / 1000) < k) : 1125899906842624 < (m * k + 500) / 1000 := by
  have h1 := (Nat.div_lt_iff_lt_mul h0).1 h
  rw [← rmul_eq, Nat.mul_comm (m / 1000) k]
  omega
theorem rmul_fit (m k : Nat) (h : 0 < m / 1000 → k ≤ 1125899906842624 / (m / 1000)) : m / 1000 * k ≤ 1125899906842624 := by
  rcases Nat.eq_zero_or_pos (m / 1000) with h0 | h0
  · rw [h0]; omega
  · have := (Nat.le_div_iff_mul_le h0).1 (h h0)
    rwa [Nat.mul_comm]
set_option maxHeartbeats 2000000 in
theorem rmul_any (a b : Int) (w : World) : Calls Tryd.prog 16 #[.int .i64 a, .int .i64 b] w fun e w' => e = .returned (.tuple #[.int .i64 (mulE a b).1, .int .i64 (mulE a b).2]) ∧ w = w' := by
  by_cases ha : InR a
  · by_cases hb : InR b
    · rw [show mulE a b = lim a b (mulN a b) from if_pos ⟨ha, hb⟩]
      have HA := Lib.hid ha; have HB := Lib.hid hb
      have HAA := Lib.hid fun W => rabsG a W ha
      have HAB := Lib.hid fun W => rabsG b W hb
      have hm1 : a.natAbs ≤ 1125899906842624 := by have := ha.1; have := ha.2; omega
      have hm2 : b.natAbs ≤ 1125899906842624 := by have := hb.1; have := hb.2; omega
      obtain ⟨n, hn⟩ : ∃ n, n = mulN a b := ⟨_, rfl⟩
      rw [← hn]
      have HSG := Lib.hid fun (n : Int) (W : World) (h1 : 0 ≤ n) (h2 : n ≤ 1125899906842624) => rsignedG n a b W h1 h2
      unfold mulN at hn
      clear ha hb
      generalize hma : a.natAbs = m at *
      generalize hnb : b.natAbs = k at *
      clear hma hnb
      obtain ⟨P, hP⟩ : ∃ P, P = m / 1000 := ⟨_, rfl⟩
      obtain ⟨Q, hQ⟩ : ∃ Q, Q = m % 1000 := ⟨_, rfl⟩
      have hP2 : (m : Int).tdiv 1000 = (P : Int) := by rw [hP]; rfl
      have hQ2 : (m : Int).tmod 1000 = (Q : Int) := by rw [hQ]; rfl
      have hv := rmul_val2 m k
      have hbg := rmul_big m k
      have hft := rmul_fit m k
      rw [← hn, ← hP, ← hQ] at hv
      rw [← hn, ← hP] at hbg
      rw [← hP] at hft
      obtain ⟨M, hM⟩ : ∃ M, M = 1125899906842624 / P := ⟨_, rfl⟩
      have hM2 : (1125899906842624 : Int).tdiv (P : Int) = (M : Int) := by rw [hM]; rfl
      rw [← hM] at hbg hft
      have g4 : IntKind.i64.wrap (P : Int) = (P : Int) := IntWalk.i64_in _ (by omega)
      by_cases hz : 0 < P
      · by_cases hk : M < k
        · rw [lim_big (hbg hz hk)]
          have g1 : decide ((0 : Int) < (P : Int)) = true := decide_eq_true (by omega)
          have g2 : decide ((M : Int) < (k : Int)) = true := decide_eq_true (by omega)
          have g3 : (P : Int) ≠ 0 := by omega
          have g5 : IntKind.i64.wrap (M : Int) = (M : Int) := IntWalk.i64_in _ (by have := Nat.div_le_self 1125899906842624 P; omega)
          clear hv hbg hft hM hn hP hQ hk hz hm1 hm2
          generalize (m : Int) = m' at *
          generalize (k : Int) = k' at *
          generalize (P : Int) = P' at *
          generalize (Q : Int) = Q' at *
          generalize (M : Int) = M' at *
          go_enter Tryd.func16, Tryd.ntmps16
          go_wp2_with fail
          refine (wideG_yes _ _ HA.out).mono ?_
          rintro e w1 ⟨rfl, rfl⟩
          go_wp2_with fail
          refine (wideG_yes _ _ HB.out).mono ?_
          rintro e w1 ⟨rfl, rfl⟩
          go_wp2_with fail
          refine (HAA.out _).mono ?_
          rintro e w1 ⟨rfl, rfl⟩
          go_wp2_with fail
          refine (HAA.out _).mono ?_
          rintro e w1 ⟨rfl, rfl⟩
          go_wp2_with fail
          refine (HAB.out _).mono ?_
          rintro e w1 ⟨rfl, rfl⟩
          go_wp2
          go_ret2
          exact ⟨rfl, rfl⟩
        · have g1 : decide ((0 : Int) < (P : Int)) = true := decide_eq_true (by omega)
          have g2 : decide ((M : Int) < (k : Int)) = false := decide_eq_false (by omega)
          have g3 : (P : Int) ≠ 0 := by omega
          have g5 : IntKind.i64.wrap (M : Int) = (M : Int) := IntWalk.i64_in _ (by have := Nat.div_le_self 1125899906842624 P; omega)
          have hA0 := hft (fun hz => by omega)
          obtain ⟨A, hA⟩ : ∃ A, A = P * k := ⟨_, rfl⟩
          rw [← hA] at hA0
          obtain ⟨B, hB⟩ : ∃ B, B = 2 * Q * k := ⟨_, rfl⟩
          have hB0 : B ≤ 2000 * 1125899906842624 := by rw [hB]; exact Nat.mul_le_mul (by omega) hm2
          have a1 : (P : Int) * (k : Int) = (A : Int) := by rw [hA]; simp
          have a2 : 2 * (Q : Int) * (k : Int) = (B : Int) := by rw [hB]; simp
          have a3 : IntKind.i64.wrap (A : Int) = A := IntWalk.i64_in _ (by omega)
          have a4 : IntKind.i64.wrap (B : Int) = B := IntWalk.i64_in _ (by omega)
          have a5 : IntKind.i64.wrap (2 * (Q : Int)) = 2 * (Q : Int) := IntWalk.i64_in _ (by omega)
          have a6 : IntKind.i64.wrap ((B : Int) + 1000) = (B : Int) + 1000 := IntWalk.i64_in _ (by omega)
          obtain ⟨C, hC⟩ : ∃ C, C = (B + 1000) / 2000 := ⟨_, rfl⟩
          have a12 : ((B : Int) + 1000) / 2000 = (C : Int) := by rw [hC]; simp
          have a7 : ((B : Int) + 1000).tdiv 2000 = (C : Int) := by rw [Int.tdiv_eq_ediv_of_nonneg (by omega), a12]
          rw [a1, a2, a12] at hv; clear a12
          have a8 : IntKind.i64.wrap (C : Int) = C := IntWalk.i64_in _ (by omega)
          have a9 : IntKind.i64.wrap (n : Int) = n := IntWalk.i64_in _ (by omega)
          have a10 : (0 : Int) ≤ (B : Int) + 1000 := by omega
          have a11 : IntKind.i64.wrap (Q : Int) = Q := IntWalk.i64_in _ (by omega)
          by_cases hl : 1125899906842624 < n
          · rw [lim_big hl]
            have g6 : decide ((1125899906842624 : Int) < (n : Int)) = true := decide_eq_true (by omega)
            clear hbg hft hM hn hP hQ hA hB hC hA0 hB0 hl hm1 hm2 hk hz
            generalize (m : Int) = m' at *
            generalize (k : Int) = k' at *
            generalize (P : Int) = P' at *
            generalize (Q : Int) = Q' at *
            generalize (M : Int) = M' at *
            generalize (A : Int) = A' at *
            generalize (B : Int) = B' at *
            generalize (C : Int) = C' at *
            generalize (n : Int) = n' at *
            go_enter Tryd.func16, Tryd.ntmps16
            go_wp2_with fail
            refine (wideG_yes _ _ HA.out).mono ?_
            rintro e w1 ⟨rfl, rfl⟩
            go_wp2_with fail
            refine (wideG_yes _ _ HB.out).mono ?_
            rintro e w1 ⟨rfl, rfl⟩
            go_wp2_with fail
            refine (HAA.out _).mono ?_
            rintro e w1 ⟨rfl, rfl⟩
            go_wp2_with fail
            refine (HAA.out _).mono ?_
            rintro e w1 ⟨rfl, rfl⟩
            go_wp2_with fail
            refine (HAB.out _).mono ?_
            rintro e w1 ⟨rfl, rfl⟩
            go_wp2
            go_ret2
            exact ⟨rfl, rfl⟩
          · rw [lim_ok hl]
            have g6 : decide ((1125899906842624 : Int) < (n : Int)) = false := decide_eq_false (by omega)
            have HS := Lib.hid fun W => HSG.out (n : Int) W (by omega) (by omega)
            clear hbg hft hM hn hP hQ hA hB hC hA0 hB0 hl hm1 hm2 HSG hk hz
            generalize (m : Int) = m' at *
            generalize (k : Int) = k' at *
            generalize (P : Int) = P' at *
            generalize (Q : Int) = Q' at *
            generalize (M : Int) = M' at *
            generalize (A : Int) = A' at *
            generalize (B : Int) = B' at *
            generalize (C : Int) = C' at *
            generalize (n : Int) = n' at *
            go_enter Tryd.func16, Tryd.ntmps16
            go_wp2_with fail
            refine (wideG_yes _ _ HA.out).mono ?_
            rintro e w1 ⟨rfl, rfl⟩
            go_wp2_with fail
            refine (wideG_yes _ _ HB.out).mono ?_
            rintro e w1 ⟨rfl, rfl⟩
            go_wp2_with fail
            refine (HAA.out _).mono ?_
            rintro e w1 ⟨rfl, rfl⟩
            go_wp2_with fail
            refine (HAA.out _).mono ?_
            rintro e w1 ⟨rfl, rfl⟩
            go_wp2_with fail
            refine (HAB.out _).mono ?_
            rintro e w1 ⟨rfl, rfl⟩
            go_wp2_with fail
            refine (HS.out _).mono ?_
            rintro e w1 ⟨rfl, rfl⟩
            go_wp2
            go_ret2
            exact ⟨rfl, rfl⟩
      · have g1 : decide ((0 : Int) < (P : Int)) = false := decide_eq_false (by omega)
        have hA0 := hft (fun hz => by omega)
        obtain ⟨A, hA⟩ : ∃ A, A = P * k := ⟨_, rfl⟩
        rw [← hA] at hA0
        obtain ⟨B, hB⟩ : ∃ B, B = 2 * Q * k := ⟨_, rfl⟩
        have hB0 : B ≤ 2000 * 1125899906842624 := by rw [hB]; exact Nat.mul_le_mul (by omega) hm2
        have a1 : (P : Int) * (k : Int) = (A : Int) := by rw [hA]; simp
        have a2 : 2 * (Q : Int) * (k : Int) = (B : Int) := by rw [hB]; simp
        have a3 : IntKind.i64.wrap (A : Int) = A := IntWalk.i64_in _ (by omega)
        have a4 : IntKind.i64.wrap (B : Int) = B := IntWalk.i64_in _ (by omega)
        have a5 : IntKind.i64.wrap (2 * (Q : Int)) = 2 * (Q : Int) := IntWalk.i64_in _ (by omega)
        have a6 : IntKind.i64.wrap ((B : Int) + 1000) = (B : Int) + 1000 := IntWalk.i64_in _ (by omega)
        obtain ⟨C, hC⟩ : ∃ C, C = (B + 1000) / 2000 := ⟨_, rfl⟩
        have a12 : ((B : Int) + 1000) / 2000 = (C : Int) := by rw [hC]; simp
        have a7 : ((B : Int) + 1000).tdiv 2000 = (C : Int) := by rw [Int.tdiv_eq_ediv_of_nonneg (by omega), a12]
        rw [a1, a2, a12] at hv; clear a12
        have a8 : IntKind.i64.wrap (C : Int) = C := IntWalk.i64_in _ (by omega)
        have a9 : IntKind.i64.wrap (n : Int) = n := IntWalk.i64_in _ (by omega)
        have a10 : (0 : Int) ≤ (B : Int) + 1000 := by omega
        have a11 : IntKind.i64.wrap (Q : Int) = Q := IntWalk.i64_in _ (by omega)
        by_cases hl : 1125899906842624 < n
        · rw [lim_big hl]
          have g6 : decide ((1125899906842624 : Int) < (n : Int)) = true := decide_eq_true (by omega)
          clear hbg hft hM hn hP hQ hA hB hC hA0 hB0 hl hm1 hm2 hz
          generalize (m : Int) = m' at *
          generalize (k : Int) = k' at *
          generalize (P : Int) = P' at *
          generalize (Q : Int) = Q' at *
          generalize (M : Int) = M' at *
          generalize (A : Int) = A' at *
          generalize (B : Int) = B' at *
          generalize (C : Int) = C' at *
          generalize (n : Int) = n' at *
          go_enter Tryd.func16, Tryd.ntmps16
          go_wp2_with fail
          refine (wideG_yes _ _ HA.out).mono ?_
          rintro e w1 ⟨rfl, rfl⟩
          go_wp2_with fail
          refine (wideG_yes _ _ HB.out).mono ?_
          rintro e w1 ⟨rfl, rfl⟩
          go_wp2_with fail
          refine (HAA.out _).mono ?_
          rintro e w1 ⟨rfl, rfl⟩
          go_wp2_with fail
          refine (HAA.out _).mono ?_
          rintro e w1 ⟨rfl, rfl⟩
          go_wp2_with fail
          refine (HAB.out _).mono ?_
          rintro e w1 ⟨rfl, rfl⟩
          go_wp2
          go_ret2
          exact ⟨rfl, rfl⟩
        · rw [lim_ok hl]
          have g6 : decide ((1125899906842624 : Int) < (n : Int)) = false := decide_eq_false (by omega)
          have HS := Lib.hid fun W => HSG.out (n : Int) W (by omega) (by omega)
          clear hbg hft hM hn hP hQ hA hB hC hA0 hB0 hl hm1 hm2 HSG hz
          generalize (m : Int) = m' at *
          generalize (k : Int) = k' at *
          generalize (P : Int) = P' at *
          generalize (Q : Int) = Q' at *
          generalize (M : Int) = M' at *
          generalize (A : Int) = A' at *
          generalize (B : Int) = B' at *
          generalize (C : Int) = C' at *
          generalize (n : Int) = n' at *
          go_enter Tryd.func16, Tryd.ntmps16
          go_wp2_with fail
          refine (wideG_yes _ _ HA.out).mono ?_
          rintro e w1 ⟨rfl, rfl⟩
          go_wp2_with fail
          refine (wideG_yes _ _ HB.out).mono ?_
          rintro e w1 ⟨rfl, rfl⟩
          go_wp2_with fail
          refine (HAA.out _).mono ?_
          rintro e w1 ⟨rfl, rfl⟩
          go_wp2_with fail
          refine (HAA.out _).mono ?_
          rintro e w1 ⟨rfl, rfl⟩
          go_wp2_with fail
          refine (HAB.out _).mono ?_
          rintro e w1 ⟨rfl, rfl⟩
          go_wp2_with fail
          refine (HS.out _).mono ?_
          rintro e w1 ⟨rfl, rfl⟩
          go_wp2
          go_ret2
          exact ⟨rfl, rfl⟩
    · rw [show mulE a b = (0, 12) from if_neg (fun h => hb h.2)]
      have HA := Lib.hid ha; have HB := Lib.hid hb
      clear ha hb
      go_enter Tryd.func16, Tryd.ntmps16
      go_wp2_with fail
      refine (wideG_yes _ _ HA.out).mono ?_
      rintro e w1 ⟨rfl, rfl⟩
      go_wp2_with fail
      refine (wideG_no _ _ HB.out).mono ?_
      rintro e w1 ⟨rfl, rfl⟩
      go_wp2
      go_ret2
      exact ⟨rfl, rfl⟩
  · rw [show mulE a b = (0, 12) from if_neg (fun h => ha h.1)]
    have HA := Lib.hid ha
    clear ha
    go_enter Tryd.func16, Tryd.ntmps16
    go_wp2_with fail
    refine (wideG_no _ _ HA.out).mono ?_
    rintro e w1 ⟨rfl, rfl⟩
    go_wp2
    go_ret2
    exact ⟨rfl, rfl⟩
end Go.Proofs.YtcfikdoejmgejaaDoor
