/-
  The walks of the ratio of any three numbers.
-/
import Derived.Test.YtcfikdoejmgejaaDoorRMulAny
namespace Go.Proofs.YtcfikdoejmgejaaDoor
open Go.RowKit

def RatOk (a b c : Int) : Prop := 0 ≤ a ∧ 0 ≤ b ∧ 1 ≤ c ∧ InR a ∧ InR b ∧ InR c
instance (a b c : Int) : Decidable (RatOk a b c) := inferInstanceAs (Decidable (_ ∧ _ ∧ _ ∧ _ ∧ _ ∧ _))
def ratN (a b c : Int) : Nat := a.natAbs * b.natAbs / c.natAbs
def ratioE (a b c : Int) : Int × Int := if RatOk a b c then lim 0 0 (ratN a b c) else (0, 1)
theorem mulU (m : Nat) (h : m ≤ 1125899906842624) : IntKind.u64.wrap (m : Int) = (m : Int) := wN _ (by omega)

set_option maxHeartbeats 2000000 in
theorem ratio_any (a b c : Int) (w : World) : Calls Tryd.prog 19 #[.int .i64 a, .int .i64 b, .int .i64 c] w fun e w' => e = .returned (.tuple #[.int .i64 (ratioE a b c).1, .int .i64 (ratioE a b c).2]) ∧ Below w.heap.size w w' := by
  by_cases h : RatOk a b c
  · rw [show ratioE a b c = lim 0 0 (ratN a b c) from if_pos h]
    obtain ⟨h1, h2, h3, h4, h5, h6⟩ := h
    have HA := Lib.hid h4; have HB := Lib.hid h5; have HC := Lib.hid h6
    have hm : a.natAbs ≤ 1125899906842624 := by have := h4.2; omega
    have hk : b.natAbs ≤ 1125899906842624 := by have := h5.2; omega
    have hc : c.natAbs ≤ 1125899906842624 := by have := h6.2; omega
    have hc0 : 0 < c.natAbs := by omega
    have em : a = (a.natAbs : Int) := by omega
    have ek : b = (b.natAbs : Int) := by omega
    have ec : c = (c.natAbs : Int) := by omega
    obtain ⟨n, hn⟩ : ∃ n, n = ratN a b c := ⟨_, rfl⟩
    rw [← hn]
    unfold ratN at hn
    generalize a.natAbs = m at *
    generalize b.natAbs = k at *
    generalize c.natAbs = y at *
    subst em ek ec
    clear h4 h5 h6
    have HM := Lib.hid fun W => mul64_any m k (by omega) (by omega) W
    obtain ⟨H, hH⟩ : ∃ H, H = m * k / 18446744073709551616 := ⟨_, rfl⟩
    obtain ⟨L, hL⟩ : ∃ L, L = m * k % 18446744073709551616 := ⟨_, rfl⟩
    rw [← hH, ← hL] at HM
    have u1 := mulU m hm
    have u2 := mulU k hk
    have u3 := mulU y hc
    have hT : H * 18446744073709551616 + L = m * k := by rw [hH, hL]; exact Nat.div_add_mod' _ _
    have hL2 : L < 18446744073709551616 := by rw [hL]; exact Nat.mod_lt _ (by decide)
    clear hH hL
    by_cases hbig : y ≤ H
    · rw [lim_big (by
        rw [hn, ← hT]
        refine Nat.lt_of_lt_of_le (show 1125899906842624 < 18446744073709551616 by decide) ((Nat.le_div_iff_mul_le hc0).2 ?_)
        omega)]
      have hb1 : (y : Int) ≤ (H : Int) := by omega
      clear hT hL2 hn hm hk hc
      go_enter Tryd.func19, Tryd.ntmps19
      go_wp2_with fail
      refine (inrG_yes _ _ HA.out).mono ?_
      rintro e w1 ⟨rfl, rfl⟩
      go_wp2_with fail
      refine (inrG_yes _ _ HB.out).mono ?_
      rintro e w1 ⟨rfl, rfl⟩
      go_wp2_with fail
      refine (inrG_yes _ _ HC.out).mono ?_
      rintro e w1 ⟨rfl, rfl⟩
      go_wp2_with fail
      refine (HM.out _).mono ?_
      rintro e w1 ⟨rfl, rfl⟩
      go_wp2
      go_ret2
      exact ⟨rfl, Below.refl _ _⟩
    · have hb1 : (H : Int) < (y : Int) := by omega
      have HD := Lib.hid fun W => divG H L y W (by omega) hc hL2
      have hq : (H * 18446744073709551616 + L) / y = n := by rw [hT, hn]
      have hqlt := quo_lt (hi := H) (lo := L) (y := y) (by omega) hL2
      rw [hq] at HD hqlt
      have HS := Lib.hid fun W => signed_as 0 0 n false rfl W hqlt
      clear hT hL2 hn hm hk hc hqlt hq hbig
      go_enter Tryd.func19, Tryd.ntmps19
      go_wp2_with fail
      refine (inrG_yes _ _ HA.out).mono ?_
      rintro e w1 ⟨rfl, rfl⟩
      go_wp2_with fail
      refine (inrG_yes _ _ HB.out).mono ?_
      rintro e w1 ⟨rfl, rfl⟩
      go_wp2_with fail
      refine (inrG_yes _ _ HC.out).mono ?_
      rintro e w1 ⟨rfl, rfl⟩
      go_wp2_with fail
      refine (HM.out _).mono ?_
      rintro e w1 ⟨rfl, rfl⟩
      go_wp2_with fail
      refine (HD.out _).mono ?_
      rintro e w1 ⟨r, rfl, hb3⟩
      go_wp2_with fail
      refine (HS.out _).mono ?_
      rintro e w2 ⟨rfl, rfl⟩
      go_wp2
      go_ret2
      exact ⟨rfl, hb3⟩
  · rw [show ratioE a b c = (0, 1) from if_neg h]
    by_cases h1 : a < 0
    · clear h
      go_enter Tryd.func19, Tryd.ntmps19
      go_wp2
      go_ret2
      exact ⟨rfl, Below.refl _ _⟩
    by_cases h2 : b < 0
    · clear h
      go_enter Tryd.func19, Tryd.ntmps19
      go_wp2
      go_ret2
      exact ⟨rfl, Below.refl _ _⟩
    by_cases h3 : c < 1
    · clear h
      go_enter Tryd.func19, Tryd.ntmps19
      go_wp2
      go_ret2
      exact ⟨rfl, Below.refl _ _⟩
    by_cases h4 : InR a
    · by_cases h5 : InR b
      · have h6 : ¬ InR c := fun h6 => h ⟨by omega, by omega, by omega, h4, h5, h6⟩
        have HA := Lib.hid h4; have HB := Lib.hid h5; have HC := Lib.hid h6
        clear h h4 h5 h6
        go_enter Tryd.func19, Tryd.ntmps19
        go_wp2_with fail
        refine (inrG_yes _ _ HA.out).mono ?_
        rintro e w1 ⟨rfl, rfl⟩
        go_wp2_with fail
        refine (inrG_yes _ _ HB.out).mono ?_
        rintro e w1 ⟨rfl, rfl⟩
        go_wp2_with fail
        refine (inrG_no _ _ HC.out).mono ?_
        rintro e w1 ⟨rfl, rfl⟩
        go_wp2
        go_ret2
        exact ⟨rfl, Below.refl _ _⟩
      · have HA := Lib.hid h4; have HB := Lib.hid h5
        clear h h4 h5
        go_enter Tryd.func19, Tryd.ntmps19
        go_wp2_with fail
        refine (inrG_yes _ _ HA.out).mono ?_
        rintro e w1 ⟨rfl, rfl⟩
        go_wp2_with fail
        refine (inrG_no _ _ HB.out).mono ?_
        rintro e w1 ⟨rfl, rfl⟩
        go_wp2
        go_ret2
        exact ⟨rfl, Below.refl _ _⟩
    · have HA := Lib.hid h4
      clear h h4
      go_enter Tryd.func19, Tryd.ntmps19
      go_wp2_with fail
      refine (inrG_no _ _ HA.out).mono ?_
      rintro e w1 ⟨rfl, rfl⟩
      go_wp2
      go_ret2
      exact ⟨rfl, Below.refl _ _⟩
end Go.Proofs.YtcfikdoejmgejaaDoor
