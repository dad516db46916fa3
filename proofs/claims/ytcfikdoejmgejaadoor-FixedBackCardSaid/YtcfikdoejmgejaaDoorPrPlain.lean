/-
  The plain law of the reference's notation of a number.
-/
import Derived.Test.YtcfikdoejmgejaaDoorFixAlive
namespace Go.Proofs.YtcfikdoejmgejaaDoor
open Go.RowKit

def dch (d : Nat) : UInt8 := UInt8.ofNat (48 + d)
def pad3 (m : Nat) : List UInt8 := List.replicate (3 - Lib.nDigits m) 48 ++ Lib.decDigits m
theorem pad3_eq {m : Nat} (h : m < 1000) : pad3 m = [dch (m / 100), dch (m / 10 % 10), dch (m % 10)] := by
  unfold pad3 dch
  by_cases h1 : m < 10
  · rw [Lib.nDigits_small h1, dec_small h1, show m / 100 = 0 by omega, show m / 10 % 10 = 0 by omega, show m % 10 = m by omega]; rfl
  · by_cases h2 : m < 100
    · rw [Lib.nDigits_big h1, dec_big h1, Lib.nDigits_small (by omega), dec_small (u := m / 10) (by omega), show m / 100 = 0 by omega, show m / 10 % 10 = m / 10 by omega]; rfl
    · rw [Lib.nDigits_big h1, dec_big h1, Lib.nDigits_big (u := m / 10) (by omega), dec_big (u := m / 10) (by omega), Lib.nDigits_small (by omega), dec_small (u := m / 10 / 10) (by omega), show m / 10 / 10 = m / 100 by omega]; rfl
/-- What is still to be written ahead, with the point. -/
def headL (v i : Nat) : List UInt8 := if i ≤ 3 then Lib.decDigits v ++ [46] else if v = 0 then [] else Lib.decDigits v
/-- What holds of the text after 'i' rounds. -/
def PrI (u i v : Nat) (s : List UInt8) : Prop := i ≤ 20 ∧ v = u / 10 ^ i ∧ (i ≤ 3 → s.length ≤ i) ∧ s.length ≤ i + 1 ∧
  (i = 0 ∧ s = [] ∨ i = 1 ∧ s = [dch (u % 10)] ∨ i = 2 ∧ s = [dch (u / 10 % 10), dch (u % 10)] ∨ 3 ≤ i ∧ headL v i ++ s = Lib.decDigits (u / 1000) ++ 46 :: pad3 (u % 1000))
theorem head_lo {v i : Nat} (h : i ≤ 3) : headL v i = Lib.decDigits v ++ [46] := if_pos h
theorem head_hi {v i : Nat} (h : 3 < i) (h0 : v ≠ 0) : headL v i = Lib.decDigits v := by unfold headL; rw [if_neg (by omega), if_neg h0]
theorem head_0 {i : Nat} (h : 3 < i) : headL 0 i = [] := by unfold headL; rw [if_neg (by omega), if_pos rfl]
theorem pr_start (u : Nat) : PrI u 0 u [] := ⟨by omega, by simp, by simp, by simp, .inl ⟨rfl, rfl⟩⟩
theorem pr_bound {u i v : Nat} {s : List UInt8} (h : PrI u i v s) (hu : u ≤ 9223372036854775808) (hgo : i < 4 ∨ v ≠ 0) : i ≤ 19 := by
  rcases Nat.lt_or_ge i 20 with hi | hi
  · omega
  · exfalso
    have h1 : 10 ^ 20 ≤ 10 ^ i := Nat.pow_le_pow_right (by decide) hi
    have h2 : u / 10 ^ i = 0 := Nat.div_eq_of_lt (Nat.lt_of_lt_of_le (Nat.lt_of_le_of_lt hu (by decide)) h1)
    have := h.2.1
    omega
theorem pr_round {u i v : Nat} {s : List UInt8} (h : PrI u i v s) (hu : u ≤ 9223372036854775808) (hgo : i < 4 ∨ v ≠ 0) :
    PrI u (i + 1) (v / 10) (dch (v % 10) :: (if i = 3 then 46 :: s else s)) := by
  have hb := pr_bound h hu hgo
  obtain ⟨_, hv, hl3, hl, hs⟩ := h
  have hv' : v / 10 = u / 10 ^ (i + 1) := by rw [hv, Nat.div_div_eq_div_mul, Nat.pow_succ]
  refine ⟨by omega, hv', fun h3 => ?_, ?_, ?_⟩
  · rw [if_neg (by omega)]; simp; have := hl3 (by omega); omega
  · by_cases h3 : i = 3
    · rw [if_pos h3]; simp; have := hl3 (by omega); omega
    · rw [if_neg h3]; simp; omega
  · rcases hs with ⟨rfl, rfl⟩ | ⟨rfl, rfl⟩ | ⟨rfl, rfl⟩ | ⟨h3, hs⟩
    · refine .inr (.inl ⟨rfl, ?_⟩)
      simp at hv; subst hv; rfl
    · refine .inr (.inr (.inl ⟨rfl, ?_⟩))
      rw [hv]; rfl
    · refine .inr (.inr (.inr ⟨by omega, ?_⟩))
      have e : headL (v / 10) (2 + 1) = Lib.decDigits (v / 10) ++ [46] := rfl
      rw [e, pad3_eq (Nat.mod_lt _ (by decide)), hv']
      have e1 : v % 10 = u % 1000 / 100 := by rw [hv]; show u / 100 % 10 = _; omega
      have e2 : u % 1000 / 10 % 10 = u / 10 % 10 := by omega
      have e3 : u % 1000 % 10 = u % 10 := by omega
      rw [e1, e2, e3]
      show (Lib.decDigits (u / 1000) ++ [46]) ++ _ = _
      simp
    · refine .inr (.inr (.inr ⟨by omega, ?_⟩))
      rw [← hs]
      rcases Nat.lt_or_ge 3 i with h4 | h4
      · rw [if_neg (by omega)]
        have e0 : v ≠ 0 := by omega
        rw [head_hi (v := v) h4 e0]
        by_cases h5 : v < 10
        · rw [show v / 10 = 0 by omega, head_0 (by omega), dec_small h5, show v % 10 = v by omega]; rfl
        · rw [head_hi (by omega) (by omega), dec_big h5, List.append_assoc]; rfl
      · obtain rfl : i = 3 := by omega
        rw [if_pos rfl, head_lo (v := v) (by omega)]
        by_cases h5 : v < 10
        · rw [show v / 10 = 0 by omega, head_0 (by omega), dec_small h5, show v % 10 = v by omega]; rfl
        · rw [head_hi (by omega) (by omega), dec_big h5, List.append_assoc, List.append_assoc]; rfl
theorem pr_end {u i v : Nat} {s : List UInt8} (h : PrI u i v s) (h4 : 4 ≤ i) (h0 : v = 0) : s = Lib.decDigits (u / 1000) ++ 46 :: pad3 (u % 1000) := by
  obtain ⟨_, _, _, _, hs⟩ := h
  rcases hs with ⟨rfl, _⟩ | ⟨rfl, _⟩ | ⟨rfl, _⟩ | ⟨_, hs⟩
  · omega
  · omega
  · omega
  · rw [← hs]; unfold headL; rw [if_neg (by omega), if_pos h0]; rfl
end Go.Proofs.YtcfikdoejmgejaaDoor
