/-
  The plain law of the long multiplication.
-/
import Derived.Test.YtcfikdoejmgejaaDoorRatioWalk
namespace Go.Proofs.YtcfikdoejmgejaaDoor
open Go.RowKit

def RatR (m k y : Nat) (q r B : Int) : Prop := ∃ t qn rn : Nat, t ≤ 51 ∧ q = (qn : Int) ∧ r = (rn : Int) ∧ B = ((2 ^ t / 2 : Nat) : Int) ∧ qn * y + rn = m / 2 ^ t * k ∧ rn < y ∧ qn ≤ 1125899906842624
theorem rat_start {m k y : Nat} (hm : m ≤ 1125899906842624) (hy : 0 < y) : RatR m k y 0 0 1125899906842624 := by
  refine ⟨51, 0, 0, by omega, rfl, rfl, by decide, ?_, hy, by omega⟩
  rw [Nat.div_eq_of_lt (Nat.lt_of_le_of_lt hm (by decide))]
  omega
theorem pow_half (t : Nat) : 2 ^ (t + 1) / 2 = 2 ^ t := by rw [Nat.pow_succ]; omega
theorem rat_end {m k y : Nat} {q r B : Int} (h : RatR m k y q r B) (h0 : B ≤ 0) : q = ((m * k / y : Nat) : Int) ∧ m * k / y ≤ 1125899906842624 := by
  obtain ⟨t, qn, rn, h1, h2, h3, h4, h5, h6, h7⟩ := h
  cases t with
  | succ t =>
    rw [pow_half] at h4
    have := Nat.pow_pos (n := t) (show 0 < 2 by decide)
    omega
  | zero =>
    rw [Nat.pow_zero, Nat.div_one] at h5
    have e : m * k / y = qn := by
      rw [← h5, Nat.mul_comm, Nat.mul_add_div (by omega), Nat.div_eq_of_lt h6]; omega
    rw [e]; exact ⟨h2, h7⟩
theorem rat_round {m k y : Nat} {q r B : Int} (h : RatR m k y q r B) (h0 : 0 < B) (hm : m ≤ 1125899906842624) (hk : k ≤ 1125899906842624) (hy : 0 < y) (hy2 : y ≤ 1125899906842624) :
    ∃ x B2 q1 r1 bq br q2 r2 e r3 q3 : Int, (m : Int).tdiv B = x ∧ IntKind.i64.wrap x = x ∧ B.tdiv 2 = B2 ∧ IntKind.i64.wrap B2 = B2 ∧ 0 ≤ B2 ∧ B2 < B ∧ IntKind.i64.wrap (2 * q) = q1 ∧ IntKind.i64.wrap (2 * r) = r1 ∧
      (k : Int).tdiv y = bq ∧ IntKind.i64.wrap bq = bq ∧ (k : Int).tmod y = br ∧
      ((x.tmod 2 = 0 ∧ q1 = q2 ∧ r1 = r2) ∨ (x.tmod 2 = 1 ∧ IntKind.i64.wrap (q1 + bq) = q2 ∧ IntKind.i64.wrap (r1 + br) = r2)) ∧
      r2.tdiv y = e ∧ IntKind.i64.wrap e = e ∧ r2.tmod y = r3 ∧ IntKind.i64.wrap (q2 + e) = q3 ∧
      ((1125899906842624 < q3 ∧ 1125899906842624 < m * k / y) ∨ (q3 ≤ 1125899906842624 ∧ RatR m k y q3 r3 B2)) := by
  obtain ⟨t, qn, rn, h1, rfl, rfl, rfl, h5, h6, h7⟩ := h
  cases t with
  | zero => exfalso; revert h0; decide
  | succ t =>
    rw [pow_half]
    have hp := Nat.pow_pos (n := t) (show 0 < 2 by decide)
    have hA : m / 2 ^ t = 2 * (m / 2 ^ (t + 1)) + m / 2 ^ t % 2 := by
      rw [Nat.pow_succ, ← Nat.div_div_eq_div_mul]; omega
    have hle : m / 2 ^ t ≤ m := Nat.div_le_self _ _
    have hD := Nat.mod_lt (m / 2 ^ t) (show 0 < 2 by decide)
    generalize hd : m / 2 ^ t % 2 = D at *
    have hkk := Nat.div_add_mod k y
    have hkl := Nat.mod_lt k hy
    have hkd : k / y ≤ k := Nat.div_le_self _ _
    generalize hkq : k / y = bq at *
    generalize hkr : k % y = br at *
    obtain ⟨q2, hq2⟩ : ∃ q2, q2 = 2 * qn + D * bq := ⟨_, rfl⟩
    obtain ⟨r2, hr2⟩ : ∃ r2, r2 = 2 * rn + D * br := ⟨_, rfl⟩
    have hD1 : D = 0 ∨ D = 1 := by omega
    have hr3 := Nat.div_add_mod r2 y
    have hr3l := Nat.mod_lt r2 hy
    have hel : r2 / y ≤ r2 := Nat.div_le_self _ _
    have hr2b : r2 ≤ 3 * 1125899906842624 := by rcases hD1 with rfl | rfl <;> omega
    have hq2b : q2 ≤ 3 * 1125899906842624 := by rcases hD1 with rfl | rfl <;> omega
    have hmain : (q2 + r2 / y) * y + r2 % y = m / 2 ^ t * k := by
      rw [Nat.add_mul, Nat.add_assoc, Nat.mul_comm (r2 / y) y, hr3, hA, hq2, hr2, ← hkk]
      have e1 : (2 * qn + D * bq) * y + (2 * rn + D * br) = 2 * (qn * y + rn) + D * (y * bq + br) := by
        rw [Nat.add_mul, Nat.mul_add, Nat.mul_add, Nat.mul_assoc, Nat.mul_assoc, Nat.mul_comm bq y]; omega
      rw [e1, h5, ← hkk, Nat.add_mul, Nat.mul_assoc]
    have hp1 : (0 : Int) ≤ ((r2 / y : Nat) : Int) := Int.natCast_nonneg _
    have hp2 : (0 : Int) ≤ ((2 ^ t / 2 : Nat) : Int) := Int.natCast_nonneg _
    have hp3 : (0 : Int) ≤ ((m / 2 ^ t : Nat) : Int) := Int.natCast_nonneg _
    have hover : q2 + r2 / y ≤ m * k / y := by
      refine (Nat.le_div_iff_mul_le hy).2 ?_
      have := Nat.mul_le_mul_right k hle
      omega
    refine ⟨((m / 2 ^ t : Nat) : Int), ((2 ^ t / 2 : Nat) : Int), ((2 * qn : Nat) : Int), ((2 * rn : Nat) : Int), (bq : Int), (br : Int), (q2 : Int), (r2 : Int), ((r2 / y : Nat) : Int), ((r2 % y : Nat) : Int), ((q2 + r2 / y : Nat) : Int),
      rfl, IntWalk.i64_in _ (by omega), rfl, IntWalk.i64_in _ ?_, by omega, by omega, ?_, ?_, by rw [← hkq]; rfl, IntWalk.i64_in _ (by omega), by rw [← hkr]; rfl, ?_, rfl, IntWalk.i64_in _ (by omega), rfl, ?_, ?_⟩
    · have : 2 ^ t ≤ 2 ^ 50 := Nat.pow_le_pow_right (by decide) (by omega)
      have e : (2 : Nat) ^ 50 = 1125899906842624 := by decide
      omega
    · have e : 2 * (qn : Int) = ((2 * qn : Nat) : Int) := by omega
      rw [e]; exact IntWalk.i64_in _ (by omega)
    · have e : 2 * (rn : Int) = ((2 * rn : Nat) : Int) := by omega
      rw [e]; exact IntWalk.i64_in _ (by omega)
    · rcases hD1 with rfl | rfl
      · refine .inl ⟨?_, by omega, by omega⟩
        show ((m / 2 ^ t % 2 : Nat) : Int) = 0
        rw [hd]; rfl
      · refine .inr ⟨?_, ?_, ?_⟩
        · show ((m / 2 ^ t % 2 : Nat) : Int) = 1
          rw [hd]; rfl
        · have e : ((2 * qn : Nat) : Int) + (bq : Int) = (q2 : Int) := by omega
          rw [e]; exact IntWalk.i64_in _ (by omega)
        · have e : ((2 * rn : Nat) : Int) + (br : Int) = (r2 : Int) := by omega
          rw [e]; exact IntWalk.i64_in _ (by omega)
    · have e : (q2 : Int) + ((r2 / y : Nat) : Int) = ((q2 + r2 / y : Nat) : Int) := by omega
      rw [e]; exact IntWalk.i64_in _ (by omega)
    · rcases Nat.lt_or_ge 1125899906842624 (q2 + r2 / y) with hl | hl
      · exact .inl ⟨by omega, by omega⟩
      · exact .inr ⟨by omega, t, _, _, by omega, rfl, rfl, rfl, hmain, hr3l, hl⟩
end Go.Proofs.YtcfikdoejmgejaaDoor
