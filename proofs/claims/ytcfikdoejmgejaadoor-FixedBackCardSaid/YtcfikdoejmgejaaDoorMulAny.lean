/-
  The walks of the product of any two numbers, and of the ratio of any three.
-/
import Derived.Test.YtcfikdoejmgejaaDoorDivWalk
namespace Go.Proofs.YtcfikdoejmgejaaDoor
open Go.RowKit

theorem wrap_quotG (lo y : Nat) (hlo : lo < 18446744073709551616) : IntKind.u64.wrap ((lo : Int) / (y : Int)) = (lo : Int) / (y : Int) := by
  rw [← Int.natCast_ediv]
  exact Mul64.wrapN _ (by have := Nat.div_le_self lo y; omega)
theorem div64_zero (lo y : Nat) (hlo : lo < 18446744073709551616) (h0 : 0 < y) (w : World) :
    Calls Tryd.prog 35 #[.int .u64 0, .int .u64 (lo : Int), .int .u64 (y : Int)] w (QuoP (lo / y) w) := by
  have hq := wrap_quotG lo y hlo
  have e0 : ((y : Int) == 0) = false := by rw [beq_eq_false_iff_ne]; omega
  clear hlo
  go_enter Tryd.func35, Tryd.ntmps35
  go_wp2
  go_quiet (fail)
  go_wp2
  go_ret2
  exact ⟨(lo : Int) % (y : Int), by simp, Joins.below_draws _ _ _⟩
theorem divG (hi lo y : Nat) (w : World) (hh : hi < y) (hy2 : y ≤ 1125899906842624) (hlo : lo < 18446744073709551616) :
    Calls Tryd.prog 35 #[.int .u64 (hi : Int), .int .u64 (lo : Int), .int .u64 (y : Int)] w (QuoP ((hi * 18446744073709551616 + lo) / y) w) := by
  rcases Nat.eq_zero_or_pos hi with h | h
  · subst h
    have e : (0 * 18446744073709551616 + lo) / y = lo / y := by rw [Nat.zero_mul, Nat.zero_add]
    rw [e]
    exact div64_zero lo y hlo (by omega) w
  · exact div64_any hi lo y w hh h hy2 hlo
theorem quo_lt {hi lo y : Nat} (hh : hi < y) (hlo : lo < 18446744073709551616) : (hi * 18446744073709551616 + lo) / y < 18446744073709551616 := by
  refine (Nat.div_lt_iff_lt_mul (by omega)).2 ?_
  rw [Nat.mul_comm]
  omega
theorem run_addG (x : Nat) (w : World) :
    (callFunc 34 #[.int .u64 (x : Int), .int .u64 500, .int .u64 0]).run Tryd.prog w = .ok (.value (.tuple #[.int .u64 (((x + 500) % 18446744073709551616 : Nat) : Int), .int .u64 (((x + 500) / 18446744073709551616 : Nat) : Int)])) w := by
  have h := run_callFunc_extern (e := add64Entry) Tryd.func34 (by kernel_rfl) (by kernel_rfl) (by kernel_rfl) (by kernel_rfl) #[.int .u64 (x : Int), .int .u64 500, .int .u64 0] w
  rw [h, run_add64 x 500 0 (by omega) (by omega) (by omega) (by omega)]
  simp only [Result.andThen]
  rw [show ((x : Int) + 500 + 0) % 18446744073709551616 = (((x + 500) % 18446744073709551616 : Nat) : Int) by omega, show ((x : Int) + 500 + 0) / 18446744073709551616 = (((x + 500) / 18446744073709551616 : Nat) : Int) by omega]

/-- The rounded product of the absolute values. -/
def mulN (a b : Int) : Nat := (a.natAbs * b.natAbs + 500) / 1000
def mulE (a b : Int) : Int × Int := if InR a ∧ InR b then lim a b (mulN a b) else (0, 12)
theorem sgn_bool (a b : Int) : ∃ (x y z : Bool), decide (a < 0) = x ∧ decide (b < 0) = y ∧ (x != y) = z ∧ z = decide ((a < 0 ∧ 0 ≤ b) ∨ (0 ≤ a ∧ b < 0)) := by
  have hs : (a < 0 ∧ b < 0) ∨ (a < 0 ∧ 0 ≤ b) ∨ (0 ≤ a ∧ b < 0) ∨ (0 ≤ a ∧ 0 ≤ b) := by omega
  refine ⟨_, _, _, rfl, rfl, rfl, ?_⟩
  rw [Bool.eq_iff_iff]
  rcases hs with ⟨s1, s2⟩ | ⟨s1, s2⟩ | ⟨s1, s2⟩ | ⟨s1, s2⟩ <;> simp <;> omega

set_option maxHeartbeats 2000000 in
theorem mul_any (a b : Int) (w : World) : Calls Tryd.prog 15 #[.int .i64 a, .int .i64 b] w fun e w' => e = .returned (.tuple #[.int .i64 (mulE a b).1, .int .i64 (mulE a b).2]) ∧ Below w.heap.size w w' := by
  by_cases ha : InR a
  · by_cases hb : InR b
    · rw [show mulE a b = lim a b (mulN a b) from if_pos ⟨ha, hb⟩]
      have HA := Lib.hid ha; have HB := Lib.hid hb
      have HAA := Lib.hid fun W => absG a W ha
      have HAB := Lib.hid fun W => absG b W hb
      have hm1 : a.natAbs ≤ 1125899906842624 := by have := ha.1; have := ha.2; omega
      have hm2 : b.natAbs ≤ 1125899906842624 := by have := hb.1; have := hb.2; omega
      obtain ⟨n, hn⟩ : ∃ n, n = mulN a b := ⟨_, rfl⟩
      rw [← hn]
      obtain ⟨x, y, z, e1, e2, e3, e4⟩ := sgn_bool a b
      have HSG := Lib.hid fun (k : Nat) (W : World) (h : k < 18446744073709551616) => signed_as a b k z e4 W h
      unfold mulN at hn
      clear ha hb e4
      generalize hma : a.natAbs = m at *
      generalize hnb : b.natAbs = k at *
      obtain ⟨H, hH⟩ : ∃ H, H = m * k / 18446744073709551616 := ⟨_, rfl⟩
      obtain ⟨L, hL⟩ : ∃ L, L = m * k % 18446744073709551616 := ⟨_, rfl⟩
      have HM := Lib.hid fun W => mul64_any m k (by omega) (by omega) W
      rw [← hH, ← hL] at HM
      obtain ⟨lo, hlo⟩ : ∃ lo, lo = (L + 500) % 18446744073709551616 := ⟨_, rfl⟩
      obtain ⟨cy, hcy⟩ : ∃ cy, cy = (L + 500) / 18446744073709551616 := ⟨_, rfl⟩
      have ha : ∀ W, (callFunc 34 #[.int .u64 (L : Int), .int .u64 500, .int .u64 0]).run Tryd.prog W = .ok (.value (.tuple #[.int .u64 (lo : Int), .int .u64 (cy : Int)])) W := fun W => by rw [run_addG, hlo, hcy]
      have hp : m * k ≤ 1125899906842624 * 1125899906842624 := Nat.mul_le_mul hm1 hm2
      obtain ⟨h, hh⟩ : ∃ h, h = H + cy := ⟨_, rfl⟩
      generalize m * k = p at *
      have f1 : IntKind.u64.wrap ((H : Int) + (cy : Int)) = (h : Int) := by rw [Mul64.addN, ← hh]; exact wN _ (by omega)
      have hT : h * 18446744073709551616 + lo = p + 500 := by omega
      have hlo2 : lo < 18446744073709551616 := by omega
      have HN := Lib.hid hn
      have HT := Lib.hid hT
      have HL2 := Lib.hid hlo2
      clear hn hT hlo2 hh hlo hcy hH hL hp hm1 hm2 hma hnb
      by_cases hbig : 1000 ≤ h
      · have hover : lim a b n = (0, 12) := lim_big (by
          rw [HN.out, ← HT.out]
          refine Nat.lt_of_lt_of_le (show 1125899906842624 < 18446744073709551616 by decide) ((Nat.le_div_iff_mul_le (by omega)).2 ?_)
          omega)
        rw [hover]
        have hb0 : (1000 : Int) ≤ (h : Int) := by omega
        have hb1 : decide ((1000 : Int) ≤ (h : Int)) = true := decide_eq_true hb0
        clear hover hbig hb0
        go_enter Tryd.func15, Tryd.ntmps15
        go_wp2_with fail
        refine (inrG_yes _ _ HA.out).mono ?_
        rintro e w1 ⟨rfl, rfl⟩
        go_wp2_with fail
        refine (inrG_yes _ _ HB.out).mono ?_
        rintro e w1 ⟨rfl, rfl⟩
        go_wp2_with fail
        refine (HAA.out _).mono ?_
        rintro e w1 ⟨rfl, rfl⟩
        go_wp2_with fail
        refine (HAB.out _).mono ?_
        rintro e w1 ⟨rfl, rfl⟩
        go_wp2_with fail
        refine (HM.out _).mono ?_
        rintro e w1 ⟨rfl, rfl⟩
        go_wp2
        go_ret2
        exact ⟨rfl, Below.refl _ _⟩
      · have hb2 : h < 1000 := by omega
        have hb1 : decide ((1000 : Int) ≤ (h : Int)) = false := decide_eq_false (by omega)
        have HD := Lib.hid fun W => divG h lo 1000 W hb2 (by omega) HL2.out
        have hq : (h * 18446744073709551616 + lo) / 1000 = n := by rw [HT.out, HN.out]
        have hqlt := quo_lt hb2 HL2.out
        rw [hq] at HD hqlt
        have HS := Lib.hid fun W => HSG.out n W hqlt
        clear hbig hb2 hq hqlt HSG
        cases x <;> cases y <;> (obtain rfl := e3)
        all_goals
          go_enter Tryd.func15, Tryd.ntmps15
          go_wp2_with fail
          refine (inrG_yes _ _ HA.out).mono ?_
          rintro e w1 ⟨rfl, rfl⟩
          go_wp2_with fail
          refine (inrG_yes _ _ HB.out).mono ?_
          rintro e w1 ⟨rfl, rfl⟩
          go_wp2_with fail
          refine (HAA.out _).mono ?_
          rintro e w1 ⟨rfl, rfl⟩
          go_wp2_with fail
          refine (HAB.out _).mono ?_
          rintro e w1 ⟨rfl, rfl⟩
          go_wp2_with fail
          refine (HM.out _).mono ?_
          rintro e w1 ⟨rfl, rfl⟩
          go_wp2_with fail
          refine (HD.out _).mono ?_
          rintro e w1 ⟨r, rfl, hb3⟩
          go_wp2_with fail
          refine (HS.out _).mono ?_
          rintro e w2 ⟨rfl, rfl⟩
          go_wp2
          go_ret2
          exact ⟨rfl, hb3⟩
    · rw [show mulE a b = (0, 12) from if_neg (fun h => hb h.2)]
      have HA := Lib.hid ha; have HB := Lib.hid hb
      clear ha hb
      go_enter Tryd.func15, Tryd.ntmps15
      go_wp2_with fail
      refine (inrG_yes _ _ HA.out).mono ?_
      rintro e w1 ⟨rfl, rfl⟩
      go_wp2_with fail
      refine (inrG_no _ _ HB.out).mono ?_
      rintro e w1 ⟨rfl, rfl⟩
      go_wp2
      go_ret2
      exact ⟨rfl, Below.refl _ _⟩
  · rw [show mulE a b = (0, 12) from if_neg (fun h => ha h.1)]
    have HA := Lib.hid ha
    clear ha
    go_enter Tryd.func15, Tryd.ntmps15
    go_wp2_with fail
    refine (inrG_no _ _ HA.out).mono ?_
    rintro e w1 ⟨rfl, rfl⟩
    go_wp2
    go_ret2
    exact ⟨rfl, Below.refl _ _⟩
end Go.Proofs.YtcfikdoejmgejaaDoor
