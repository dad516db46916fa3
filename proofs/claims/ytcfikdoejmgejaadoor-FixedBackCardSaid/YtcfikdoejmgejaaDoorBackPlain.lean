/-
  The plain law: reading what is written gives the number.
-/
import Derived.Test.YtcfikdoejmgejaaDoorPrPlain
import Derived.Test.YtcfikdoejmgejaaDoorRPaPlain
namespace Go.Proofs.YtcfikdoejmgejaaDoor
open Go.RowKit

theorem dch_toNat {d : Nat} (h : d < 10) : (UInt8.ofNat (48 + d)).toNat = 48 + d := by
  rw [UInt8.toNat_ofNat']; exact Nat.mod_eq_of_lt (by omega)
theorem dch_dig {d : Nat} (h : d < 10) : isDig (UInt8.ofNat (48 + d)) = true := isDig_iff.2 (by rw [dch_toNat h]; omega)
theorem dec_props (u : Nat) : (∀ c ∈ Lib.decDigits u, isDig c = true) ∧ val (Lib.decDigits u) = (u : Int) ∧ (1 ≤ u → (Lib.decDigits u).getD 0 0 ≠ 48) ∧ 1 ≤ (Lib.decDigits u).length := by
  induction u using Nat.strongRecOn with
  | _ u ih =>
    by_cases h : u < 10
    · rw [dec_small h]
      refine ⟨fun c hc => ?_, ?_, fun h1 => ?_, by simp⟩
      · simp only [List.mem_singleton] at hc; subst hc; exact dch_dig h
      · show 10 * 0 + (((UInt8.ofNat (48 + u)).toNat : Int) - 48) = u
        rw [dch_toNat h]; omega
      · show UInt8.ofNat (48 + u) ≠ 48
        intro e
        have := congrArg UInt8.toNat e
        rw [dch_toNat h] at this
        have e2 : (48 : UInt8).toNat = 48 := rfl
        omega
    · obtain ⟨i1, i2, i3, i4⟩ := ih (u / 10) (by omega)
      rw [dec_big h]
      refine ⟨fun c hc => ?_, ?_, fun h1 => ?_, by simp⟩
      · rcases List.mem_append.1 hc with hc | hc
        · exact i1 c hc
        · simp only [List.mem_singleton] at hc; subst hc; exact dch_dig (by omega)
      · rw [val_snoc, i2, dch_toNat (by omega)]; omega
      · rw [getD_app i4]; exact i3 (by omega)
theorem nDig_le : ∀ (k u : Nat), u < 10 ^ (k + 1) → Lib.nDigits u ≤ k + 1
  | 0, u, h => by rw [Lib.nDigits_small (by simpa using h)]; omega
  | k + 1, u, h => by
    by_cases h1 : u < 10
    · rw [Lib.nDigits_small h1]; omega
    · rw [Lib.nDigits_big h1]
      have := nDig_le k (u / 10) (Nat.div_lt_of_lt_mul (by rw [Nat.pow_succ] at h; omega))
      omega
theorem len10 (u : Nat) : (Lib.decDigits u).length ≤ 10 ↔ u < 10000000000 := by
  rw [Lib.decDigits_length]
  constructor
  · intro h
    have h1 := Lib.lt_pow_nDigits u
    have h2 : 10 ^ Lib.nDigits u ≤ 10 ^ 10 := Nat.pow_le_pow_right (by decide) h
    have h3 : (10 : Nat) ^ 10 = 10000000000 := by decide
    omega
  · intro h; exact nDig_le 9 u (by simpa using h)
theorem cut_app : ∀ (w f : List UInt8), (∀ c ∈ w, c ≠ 46) → Lib.cut (w ++ 46 :: f) [46] = (w, f, true)
  | [], f, _ => by show Lib.cut (46 :: f) [46] = _; rw [cut_cons, if_pos rfl]
  | b :: w, f, h => by
    show Lib.cut (b :: (w ++ 46 :: f)) [46] = _
    rw [cut_cons, if_neg (h b (by simp)), cut_app w f fun c hc => h c (by simp [hc])]
theorem dig_ne {c d : UInt8} (h : isDig c = true) (hd : isDig d = false) : c ≠ d := fun e => by rw [e, hd] at h; cases h
theorem pad3_len {m : Nat} (h : m < 1000) : (pad3 m).length = 3 ∧ (∀ c ∈ pad3 m, isDig c = true) ∧ val (pad3 m) = (m : Int) := by
  rw [pad3_eq h]
  refine ⟨rfl, fun c hc => ?_, ?_⟩
  · simp only [List.mem_cons, List.not_mem_nil, or_false] at hc
    rcases hc with rfl | rfl | rfl <;> exact dch_dig (by omega)
  · show 10 * (10 * (10 * 0 + (((dch (m / 100)).toNat : Int) - 48)) + (((dch (m / 10 % 10)).toNat : Int) - 48)) + (((dch (m % 10)).toNat : Int) - 48) = m
    unfold dch
    rw [dch_toNat (by omega), dch_toNat (by omega), dch_toNat (by omega)]; omega
theorem val_app3 (w f : List UInt8) (h : f.length = 3) : val (w ++ f) = 1000 * val w + val f := by
  match f, h with
  | [x, y, z], _ => exact val3 w x y z
theorem back_core (neg : Bool) (u : Nat) : paM neg (Lib.decDigits (u / 1000)) (pad3 (u % 1000)) true = if u ≤ 9999999999999 then finE neg (u : Int) else (0, 3) := by
  obtain ⟨d1, d2, d3, d4⟩ := dec_props (u / 1000)
  obtain ⟨p1, p2, p3⟩ := pad3_len (Nat.mod_lt u (show 0 < 1000 by decide))
  have hl := len10 (u / 1000)
  unfold paM
  by_cases h : u ≤ 9999999999999
  · rw [if_pos h]
    have hle : (Lib.decDigits (u / 1000)).length ≤ 10 := hl.2 (by omega)
    have n1 : ¬ (digs (Lib.decDigits (u / 1000)) 10 = false ∨ (1 < (Lib.decDigits (u / 1000)).length ∧ (Lib.decDigits (u / 1000)).getD 0 0 = 48)) := by
      rintro (e | ⟨e1, e2⟩)
      · rw [digs_iff.2 ⟨d1, d4, hle⟩] at e; cases e
      · by_cases h0 : 1 ≤ u / 1000
        · exact d3 h0 e2
        · rw [show u / 1000 = 0 by omega, dec_small (by omega)] at e1; simp at e1
    have n2 : ¬ (true = true ∧ digs (pad3 (u % 1000)) 3 = false) := by
      rintro ⟨_, e⟩
      rw [digs_iff.2 ⟨p2, by omega, by omega⟩] at e; cases e
    rw [if_neg n1, if_neg n2, p1]
    congr 1
    show val (Lib.decDigits (u / 1000) ++ (pad3 (u % 1000) ++ [])) = u
    rw [List.append_nil, val_app3 _ _ p1, d2, p3]; omega
  · rw [if_neg h, if_pos]
    left
    rw [digs_of d1]
    have : ¬ (Lib.decDigits (u / 1000)).length ≤ 10 := fun e => by have := hl.1 e; omega
    simp; omega
theorem parse_print (x : Int) : parseE (printL x) = if -9999999999999 ≤ x ∧ x ≤ 9999999999999 then (x, 0) else (0, 3) := by
  obtain ⟨d1, d2, d3, d4⟩ := dec_props (x.natAbs / 1000)
  have hc := cut_app (Lib.decDigits (x.natAbs / 1000)) (pad3 (x.natAbs % 1000)) fun c hc => dig_ne (d1 c hc) (by decide)
  have key : ∀ neg m, negB (printL x) = neg → Lib.trimPrefix (printL x) [45] = m → m = Lib.decDigits (x.natAbs / 1000) ++ 46 :: pad3 (x.natAbs % 1000) → parseE (printL x) = if x.natAbs ≤ 9999999999999 then finE neg (x.natAbs : Int) else (0, 3) := by
    intro neg m h1 h2 h3
    rw [parseE_eq, h1]
    unfold wholeL fracL ptB
    rw [h2, h3, hc]
    exact back_core neg _
  by_cases hx : x < 0
  · have hp : printL x = 45 :: (Lib.decDigits (x.natAbs / 1000) ++ 46 :: pad3 (x.natAbs % 1000)) := by
      unfold printL; rw [if_pos hx]; rfl
    have h1 : negB (printL x) = true := by rw [hp]; rfl
    rw [key true _ h1 rfl (by unfold Lib.trimPrefix; rw [if_pos (show Lib.hasPrefix (printL x) [45] = true from h1), hp]; rfl)]
    by_cases h : x.natAbs ≤ 9999999999999
    · rw [if_pos h, if_pos (by omega)]
      unfold finE
      rw [if_neg (by omega), if_pos rfl]
      congr 1; omega
    · rw [if_neg h, if_neg (by omega)]
  · have hp : printL x = Lib.decDigits (x.natAbs / 1000) ++ 46 :: pad3 (x.natAbs % 1000) := by
      unfold printL; rw [if_neg hx]; rfl
    have h1 : negB (printL x) = false := by
      rw [hp]
      unfold negB Lib.hasPrefix
      cases hl : Lib.decDigits (x.natAbs / 1000) with
      | nil => rw [hl] at d4; simp at d4
      | cons b r =>
        have hb : b ≠ 45 := dig_ne (d1 b (by rw [hl]; simp)) (by decide)
        simp only [List.cons_append, List.isPrefixOf, Bool.and_eq_false_iff]; left; rw [beq_eq_false_iff_ne]; exact fun e => hb e.symm
    rw [key false _ h1 rfl (by unfold Lib.trimPrefix; rw [if_neg (by rw [show Lib.hasPrefix (printL x) [45] = false from h1]; simp), hp])]
    by_cases h : x.natAbs ≤ 9999999999999
    · rw [if_pos h, if_pos (by omega)]
      unfold finE
      rw [if_neg (by simp), if_neg (by simp)]
      congr 1; omega
    · rw [if_neg h, if_neg (by omega)]
end Go.Proofs.YtcfikdoejmgejaaDoor
