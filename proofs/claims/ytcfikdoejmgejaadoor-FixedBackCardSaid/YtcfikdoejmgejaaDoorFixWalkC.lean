/-
  The walks of the nearest multiple of any number, and of a small ratio.
-/
import Derived.Test.YtcfikdoejmgejaaDoorFixWalkB
import Derived.Test.YtcfikdoejmgejaaDoorBelowAid
namespace Go.Proofs.YtcfikdoejmgejaaDoor
open Go.RowKit

def rndE (x s : Int) : Int × Int := if InR x ∧ 1 ≤ s ∧ s ≤ 1000000000 then ((2 * x + s) / (2 * s) * s, 0) else (0, 1)
theorem rndE_bd (x s : Int) (h1 : -1125899906842624 ≤ x) (h2 : x ≤ 1125899906842624) (h3 : 1 ≤ s) (h4 : s ≤ 1000000000) :
    -2000000000000000 ≤ (2 * x + s) / (2 * s) * s ∧ (2 * x + s) / (2 * s) * s ≤ 2000000000000000 := by
  have h := Int.emod_add_mul_ediv (2 * x + s) (2 * s)
  have a1 := Int.emod_nonneg (2 * x + s) (show 2 * s ≠ 0 by omega)
  have a2 := Int.emod_lt_of_pos (2 * x + s) (show 0 < 2 * s by omega)
  rw [Int.mul_assoc, Int.mul_comm s] at h
  omega

set_option maxHeartbeats 1000000 in
theorem round_any (x s : Int) (w : World) :
    Calls Tryd.prog 21 #[.int .i64 x, .int .i64 s] w fun e w' => e = .returned (.tuple #[.int .i64 (rndE x s).1, .int .i64 (rndE x s).2]) ∧ w = w' := by
  by_cases hx : InR x
  · have HX := Lib.hid hx
    obtain ⟨x1, x2⟩ := hx
    by_cases h1 : s < 1
    · rw [show rndE x s = (0, 1) from if_neg (fun h => by omega)]
      go_enter Tryd.func21, Tryd.ntmps21
      go_wp2_with fail
      refine (inrG_yes _ _ HX.out).mono ?_
      rintro e w1 ⟨rfl, rfl⟩
      go_wp2
      go_ret2
      exact ⟨rfl, rfl⟩
    by_cases h2 : 1000000000 < s
    · rw [show rndE x s = (0, 1) from if_neg (fun h => by omega)]
      go_enter Tryd.func21, Tryd.ntmps21
      go_wp2_with fail
      refine (inrG_yes _ _ HX.out).mono ?_
      rintro e w1 ⟨rfl, rfl⟩
      go_wp2
      go_ret2
      exact ⟨rfl, rfl⟩
    · rw [show rndE x s = ((2 * x + s) / (2 * s) * s, 0) from if_pos ⟨⟨x1, x2⟩, by omega, by omega⟩]
      obtain ⟨b1, b2⟩ := rndE_bd x s x1 x2 (by omega) (by omega)
      have s1 : 1 ≤ s := by omega
      have s2 : s ≤ 1000000000 := by omega
      clear h1 h2
      go_enter Tryd.func21, Tryd.ntmps21
      go_wp2_with fail
      refine (inrG_yes _ _ HX.out).mono ?_
      rintro e w1 ⟨rfl, rfl⟩
      go_wp2_with fail
      refine (floor_any _ _ _ (by omega) (by omega) (by omega) (by omega)).mono ?_
      rintro e w1 ⟨rfl, rfl⟩
      go_wp2
      go_ret2
      exact ⟨rfl, rfl⟩
  · rw [show rndE x s = (0, 1) from if_neg (fun h => hx h.1)]
    have HX := Lib.hid hx
    clear hx
    go_enter Tryd.func21, Tryd.ntmps21
    go_wp2_with fail
    refine (inrG_no _ _ HX.out).mono ?_
    rintro e w1 ⟨rfl, rfl⟩
    go_wp2
    go_ret2
    exact ⟨rfl, rfl⟩
set_option maxHeartbeats 1000000 in
theorem rround_any (x s : Int) (w : World) :
    Calls Tryd.prog 22 #[.int .i64 x, .int .i64 s] w fun e w' => e = .returned (.tuple #[.int .i64 (rndE x s).1, .int .i64 (rndE x s).2]) ∧ w = w' := by
  by_cases hx : InR x
  · have HX := Lib.hid hx
    obtain ⟨x1, x2⟩ := hx
    by_cases h1 : s < 1
    · rw [show rndE x s = (0, 1) from if_neg (fun h => by omega)]
      go_enter Tryd.func22, Tryd.ntmps22
      go_wp2_with fail
      refine (wideG_yes _ _ HX.out).mono ?_
      rintro e w1 ⟨rfl, rfl⟩
      go_wp2
      go_ret2
      exact ⟨rfl, rfl⟩
    by_cases h2 : 1000000000 < s
    · rw [show rndE x s = (0, 1) from if_neg (fun h => by omega)]
      go_enter Tryd.func22, Tryd.ntmps22
      go_wp2_with fail
      refine (wideG_yes _ _ HX.out).mono ?_
      rintro e w1 ⟨rfl, rfl⟩
      go_wp2
      go_ret2
      exact ⟨rfl, rfl⟩
    · rw [show rndE x s = ((2 * x + s) / (2 * s) * s, 0) from if_pos ⟨⟨x1, x2⟩, by omega, by omega⟩]
      obtain ⟨b1, b2⟩ := rndE_bd x s x1 x2 (by omega) (by omega)
      have s1 : 1 ≤ s := by omega
      have s2 : s ≤ 1000000000 := by omega
      clear h1 h2
      go_enter Tryd.func22, Tryd.ntmps22
      go_wp2_with fail
      refine (wideG_yes _ _ HX.out).mono ?_
      rintro e w1 ⟨rfl, rfl⟩
      go_wp2_with fail
      refine (rfloor_any _ _ _ (by omega) (by omega) (by omega) (by omega)).mono ?_
      rintro e w1 ⟨rfl, rfl⟩
      go_wp2
      go_ret2
      exact ⟨rfl, rfl⟩
  · rw [show rndE x s = (0, 1) from if_neg (fun h => hx h.1)]
    have HX := Lib.hid hx
    clear hx
    go_enter Tryd.func22, Tryd.ntmps22
    go_wp2_with fail
    refine (wideG_no _ _ HX.out).mono ?_
    rintro e w1 ⟨rfl, rfl⟩
    go_wp2
    go_ret2
    exact ⟨rfl, rfl⟩

set_option maxHeartbeats 1000000 in
theorem ratio_small (m n c : Nat) (w : World) (hm : m ≤ 1000000) (hn : n ≤ 1000000) (hc1 : 1 ≤ c) (hc2 : c ≤ 1000000) (hq : m * n / c ≤ 1000000000000) (hp : m * n ≤ 1000000000000) :
    Calls Tryd.prog 19 #[.int .i64 (m : Int), .int .i64 (n : Int), .int .i64 (c : Int)] w fun e w' => e = .returned (.tuple #[.int .i64 ((m * n / c : Nat) : Int), .int .i64 0]) ∧ Below w.heap.size w w' := by
  obtain ⟨p, hpp⟩ : ∃ p, m * n = p := ⟨_, rfl⟩
  rw [hpp] at hq hp ⊢
  have HP := Lib.hid hpp
  have h1 : InR m := ⟨by omega, by omega⟩
  have h2 : InR n := ⟨by omega, by omega⟩
  have h3 : InR c := ⟨by omega, by omega⟩
  have H1 := Lib.hid h1
  have H2 := Lib.hid h2
  have H3 := Lib.hid h3
  clear hpp h1 h2 h3
  go_enter Tryd.func19, Tryd.ntmps19
  go_wp2_with fail
  refine (inrG_yes _ _ H1.out).mono ?_
  rintro e w1 ⟨rfl, rfl⟩
  go_wp2_with fail
  refine (inrG_yes _ _ H2.out).mono ?_
  rintro e w1 ⟨rfl, rfl⟩
  go_wp2_with fail
  refine (inrG_yes _ _ H3.out).mono ?_
  rintro e w1 ⟨rfl, rfl⟩
  go_wp2_with fail
  refine (mul64_small m n p (by omega) (by omega) HP.out (by omega) _).mono ?_
  rintro e w1 ⟨rfl, rfl⟩
  go_wp2_with fail
  refine (div64_small p c (by omega) (by omega) (by omega) _).mono ?_
  rintro e w1 ⟨rfl, nq, rfl⟩
  go_wp2_with fail
  refine (signed_no (p / c) _ (by omega)).mono ?_
  rintro e w1 ⟨rfl, rfl⟩
  go_wp2
  go_ret2
  exact ⟨rfl, Joins.below_draws _ _ _⟩
end Go.Proofs.YtcfikdoejmgejaaDoor
