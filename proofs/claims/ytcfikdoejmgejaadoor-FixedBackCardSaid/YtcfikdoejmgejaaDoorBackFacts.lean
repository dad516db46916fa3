/-
  The plain law of what comes back, and of the exact ratio.
-/
import Derived.Test.YtcfikdoejmgejaaDoorBackPlain
import Derived.Test.YtcfikdoejmgejaaDoorRatioWalk
namespace Go.Proofs.YtcfikdoejmgejaaDoor
open Go.RowKit

theorem printL_len (x : Int) (h1 : -9223372036854775808 ≤ x) (h2 : x ≤ 9223372036854775807) : (printL x).length ≤ 100 := by
  have hp : (10 : Nat) ^ (18 + 1) = 10000000000000000000 := by decide
  have hd : Lib.nDigits (x.natAbs / 1000) ≤ 19 := nDig_le 18 _ (by rw [hp]; omega)
  have h3 := (nDigits_3 (x.natAbs % 1000) (by omega)).1
  unfold printL
  simp only [List.length_append, List.length_cons, List.length_replicate, Lib.decDigits_length]
  split
  · simp only [List.length_cons, List.length_nil]; omega
  · simp only [List.length_nil]; omega

/-- What the two products say of the quotient. -/
structure BackP (c hi lo low lowest S D M T : Int) : Prop where
  s : IntKind.i64.wrap (lowest + c) = S
  d : S.tdiv 1125899906842624 = D
  dw : IntKind.i64.wrap D = D
  t : IntKind.i64.wrap (low + D) = T
  m : S.tmod 1125899906842624 = M
  case : (low < hi ∧ 1125899906842624 ≤ S ∧ (hi < T ∨ hi = T ∧ lo < M)) ∨ (hi = low ∧ lowest ≤ lo ∧ (1125899906842624 ≤ S ∧ hi < T ∨ S < 1125899906842624 ∧ lo < S))
theorem back_lin (P Q c : Nat) (h1 : Q ≤ P) (h2 : P < Q + c) (hc : c ≤ 1125899906842624) (hP : P ≤ 1125899906842624 * 1125899906842624) :
    ∃ S D M T : Int, BackP (c : Int) ((P / 1125899906842624 : Nat) : Int) ((P % 1125899906842624 : Nat) : Int) ((Q / 1125899906842624 : Nat) : Int) ((Q % 1125899906842624 : Nat) : Int) S D M T := by
  obtain ⟨hi, eh⟩ : ∃ n, n = P / 1125899906842624 := ⟨_, rfl⟩
  obtain ⟨lo, el⟩ : ∃ n, n = P % 1125899906842624 := ⟨_, rfl⟩
  obtain ⟨qh, eq⟩ : ∃ n, n = Q / 1125899906842624 := ⟨_, rfl⟩
  obtain ⟨ql, ek⟩ : ∃ n, n = Q % 1125899906842624 := ⟨_, rfl⟩
  obtain ⟨d, hd⟩ : ∃ d, d = (ql + c) / 1125899906842624 := ⟨_, rfl⟩
  obtain ⟨m, hm⟩ : ∃ m, m = (ql + c) % 1125899906842624 := ⟨_, rfl⟩
  rw [← eh, ← el, ← eq, ← ek]
  refine ⟨((ql + c : Nat) : Int), (d : Int), (m : Int), ((qh + d : Nat) : Int), ?_, by rw [hd]; rfl, IntWalk.i64_in _ (by omega), ?_, by rw [hm]; rfl, ?_⟩
  · rw [← Int.natCast_add]; exact IntWalk.i64_in _ (by omega)
  · rw [← Int.natCast_add]; exact IntWalk.i64_in _ (by omega)
  · omega
/-- The quotient of three numbers: an error, or exact. -/
theorem ratio_facts (a b c : Int) : ratioE a b c = (0, 1) ∨ ratioE a b c = (0, 12) ∨
    ∃ m k y q : Nat, a = m ∧ b = k ∧ c = y ∧ ratioE a b c = ((q : Int), 0) ∧ m ≤ 1125899906842624 ∧ k ≤ 1125899906842624 ∧ y ≤ 1125899906842624 ∧ 1 ≤ y ∧ q ≤ 1125899906842624 ∧
      ∃ S D M T : Int, BackP (y : Int) ((m * k / 1125899906842624 : Nat) : Int) ((m * k % 1125899906842624 : Nat) : Int) ((q * y / 1125899906842624 : Nat) : Int) ((q * y % 1125899906842624 : Nat) : Int) S D M T := by
  unfold ratioE
  by_cases h : RatOk a b c
  · rw [if_pos h]
    obtain ⟨h1, h2, h3, h4, h5, h6⟩ := h
    by_cases hb : 1125899906842624 < ratN a b c
    · exact .inr (.inl (lim_big hb))
    · right; right
      have hm : a.natAbs ≤ 1125899906842624 := by have := h4.2; omega
      have hk : b.natAbs ≤ 1125899906842624 := by have := h5.2; omega
      have hc : c.natAbs ≤ 1125899906842624 := by have := h6.2; omega
      have hc0 : 0 < c.natAbs := by omega
      refine ⟨a.natAbs, b.natAbs, c.natAbs, ratN a b c, by omega, by omega, by omega, ?_, hm, hk, hc, hc0, by omega, back_lin _ _ _ ?_ ?_ hc (Nat.mul_le_mul hm hk)⟩
      · rw [lim_ok hb]; rfl
      · unfold ratN; exact Nat.div_mul_le_self _ _
      · unfold ratN
        have e1 := Nat.div_add_mod (a.natAbs * b.natAbs) c.natAbs
        have e2 := Nat.mod_lt (a.natAbs * b.natAbs) hc0
        rw [Nat.mul_comm] at e1
        omega
  · rw [if_neg h]; exact .inl rfl
end Go.Proofs.YtcfikdoejmgejaaDoor
