/-
  The arithmetic of the division of 128 bits by 64: no Go in sight.
-/
import Derived.Lib.ItoaNum
namespace Go.Proofs.YtcfikdoejmgejaaDoor.Dv

/-- One digit: an estimate q of the quotient of N = u * B + d by y = a * B + b, with the rest r. -/
structure Est (a b u d q r : Nat) : Prop where
  eq : q * a + r = u
  up : (u * 4294967296 + d) / (a * 4294967296 + b) ≤ q
  q1 : q ≤ 4294967297
theorem est_init {a b u d : Nat} (ha : 2147483648 ≤ a) (ha2 : a < 4294967296) (hb : b < 4294967296) (hu : u < a * 4294967296 + b) (hd : d < 4294967296) : Est a b u d (u / a) (u % a) := by
  refine ⟨by rw [Nat.mul_comm]; exact Nat.div_add_mod u a, ?_, ?_⟩
  · have h1 : (u * 4294967296 + d) / (a * 4294967296 + b) ≤ (u * 4294967296 + d) / (a * 4294967296) := Nat.div_le_div_left (Nat.le_add_right _ _) (by omega)
    have h2 : (u * 4294967296 + d) / (a * 4294967296) = u / a := by
      rw [Nat.mul_comm a, ← Nat.div_div_eq_div_mul]
      congr 1
      omega
    omega
  · have h4 : u < a * 4294967298 := by
      have e1 : a * 4294967298 = a * 4294967296 + a * 2 := Nat.mul_add a 4294967296 2
      rw [e1]
      clear e1
      omega
    have ha0 : 0 < a := by omega
    generalize hB : (4294967298 : Nat) = K at h4
    have h3 : u / a < K := (Nat.div_lt_iff_lt_mul ha0).2 (by rw [Nat.mul_comm]; exact h4)
    subst hB
    exact Nat.le_of_lt_succ h3
/-- The test says that the estimate is too great. -/
theorem est_down {a b u d q r : Nat} (h : Est a b u d q r) (hu : u < a * 4294967296 + b) (hd : d < 4294967296) (ht : 4294967296 ≤ q ∨ 4294967296 * r + d < q * b) :
    1 ≤ q ∧ Est a b u d (q - 1) (r + a) := by
  have hy : 0 < a * 4294967296 + b := Nat.lt_of_le_of_lt (Nat.zero_le _) hu
  have hlt : (u * 4294967296 + d) / (a * 4294967296 + b) < q := by
    rcases ht with ht | ht
    · refine Nat.lt_of_lt_of_le ((Nat.div_lt_iff_lt_mul hy).2 ?_) ht
      have : (u + 1) * 4294967296 ≤ (a * 4294967296 + b) * 4294967296 := Nat.mul_le_mul_right _ hu
      rw [Nat.mul_comm 4294967296]
      omega
    · refine (Nat.div_lt_iff_lt_mul hy).2 ?_
      have e : q * (a * 4294967296 + b) = q * a * 4294967296 + q * b := by rw [Nat.mul_add, Nat.mul_assoc]
      rw [e, ← h.eq]
      omega
  refine ⟨Nat.lt_of_le_of_lt (Nat.zero_le _) hlt, ?_, Nat.le_sub_one_of_lt hlt, by have := h.q1; omega⟩
  have := h.eq
  obtain ⟨p, rfl⟩ : ∃ p, q = p + 1 := ⟨q - 1, by have := Nat.lt_of_le_of_lt (Nat.zero_le _) hlt; omega⟩
  rw [Nat.add_mul] at this
  simp only [Nat.add_sub_cancel]
  omega
theorem est_end {a b u d q r : Nat} (ha : 2147483648 ≤ a) (hb : b < 4294967296) (h : Est a b u d q r) (ht : (q < 4294967296 ∧ q * b ≤ 4294967296 * r + d) ∨ (q ≤ 4294967296 ∧ 4294967296 ≤ r)) :
    q = (u * 4294967296 + d) / (a * 4294967296 + b) := by
  have hy : 0 < a * 4294967296 + b := by omega
  refine Nat.le_antisymm ((Nat.le_div_iff_mul_le hy).2 ?_) h.up
  have e : q * (a * 4294967296 + b) = q * a * 4294967296 + q * b := by rw [Nat.mul_add, Nat.mul_assoc]
  rw [e, ← h.eq]
  rcases ht with ⟨_, ht⟩ | ⟨hq, hr⟩
  · omega
  · have h1 : q * b ≤ 4294967296 * 4294967295 := Nat.mul_le_mul hq (by omega)
    omega
/-- Two digits one behind the other. -/
theorem two_digits {y n d : Nat} (hy : 0 < y) : n / y * 4294967296 + (n % y * 4294967296 + d) / y = (n * 4294967296 + d) / y := by
  have h := Nat.div_add_mod n y
  have e : n * 4294967296 + d = n % y * 4294967296 + d + y * (n / y * 4294967296) := by
    have e2 : y * (n / y * 4294967296) = y * (n / y) * 4294967296 := by rw [Nat.mul_assoc]
    rw [e2]
    generalize y * (n / y) = k at *
    omega
  rw [e, Nat.add_mul_div_left _ _ hy]; exact Nat.add_comm _ _
/-- The shifted numbers. -/
structure Norm (hi lo y s Y u v : Nat) : Prop where
  s1 : s ≤ 63
  s0 : 1 ≤ s
  eY : Y = y * 2 ^ s
  y1 : 9223372036854775808 ≤ Y
  y2 : Y < 18446744073709551616
  h2 : hi * 2 ^ s < 18446744073709551616
  l2 : lo / 2 ^ (64 - s) < 2 ^ s
  eu : u = hi * 2 ^ s + lo / 2 ^ (64 - s)
  eo : hi * 2 ^ s ||| lo / 2 ^ (64 - s) = u
  uY : u < Y
  ev : v = lo * 2 ^ s % 18446744073709551616
  all : u * 18446744073709551616 + v = (hi * 18446744073709551616 + lo) * 2 ^ s
theorem norm {hi lo y : Nat} (hy : 0 < y) (hy2 : y < 9223372036854775808) (hh : hi < y) (hlo : lo < 18446744073709551616) :
    Norm hi lo y (64 - Lib.bitLen y) (y * 2 ^ (64 - Lib.bitLen y)) (hi * 2 ^ (64 - Lib.bitLen y) + lo / 2 ^ (64 - (64 - Lib.bitLen y))) (lo * 2 ^ (64 - Lib.bitLen y) % 18446744073709551616) := by
  obtain ⟨L1, L2, L3⟩ := Lib.bitLenAux_bounds 64 y (by omega) (by omega)
  change 1 ≤ Lib.bitLen y at L1
  change 2 ^ (Lib.bitLen y - 1) ≤ y at L2
  change y < 2 ^ Lib.bitLen y at L3
  generalize hL : Lib.bitLen y = L at *
  have hL63 : L ≤ 63 := by
    rcases Nat.lt_or_ge 63 L with h | h
    · exfalso
      have := Nat.pow_le_pow_right (show 0 < 2 by omega) (show 63 ≤ L - 1 by omega)
      omega
    · exact h
  have e1 : 64 - (64 - L) = L := by omega
  rw [e1]
  obtain ⟨s, hs⟩ : ∃ s, s = 64 - L := ⟨_, rfl⟩
  rw [← hs]
  have hsp : 0 < 2 ^ s := Nat.two_pow_pos s
  have hp : 2 ^ L * 2 ^ s = 18446744073709551616 := by rw [← Nat.pow_add, show L + s = 64 by omega]
  have hp2 : 2 ^ (L - 1) * 2 ^ s = 9223372036854775808 := by rw [← Nat.pow_add, show L - 1 + s = 63 by omega]
  have hY1 : 9223372036854775808 ≤ y * 2 ^ s := by rw [← hp2]; exact Nat.mul_le_mul_right _ L2
  have hY2 : y * 2 ^ s < 18446744073709551616 := by rw [← hp]; exact Nat.mul_lt_mul_of_pos_right L3 hsp
  have hh2 : (hi + 1) * 2 ^ s ≤ y * 2 ^ s := Nat.mul_le_mul_right _ hh
  have hl2 : lo / 2 ^ L < 2 ^ s := (Nat.div_lt_iff_lt_mul (Nat.two_pow_pos L)).2 (by rw [Nat.mul_comm, hp]; exact hlo)
  rw [Nat.add_mul, Nat.one_mul] at hh2
  have hm := Nat.div_add_mod lo (2 ^ L)
  have hmlt : lo % 2 ^ L < 2 ^ L := Nat.mod_lt _ (Nat.two_pow_pos L)
  have hr : lo % 2 ^ L * 2 ^ s < 18446744073709551616 := by rw [← hp]; exact Nat.mul_lt_mul_of_pos_right hmlt hsp
  have hlo2 : lo * 2 ^ s = lo / 2 ^ L * 18446744073709551616 + lo % 2 ^ L * 2 ^ s := by
    conv => lhs; rw [← hm]
    rw [Nat.add_mul, Nat.mul_comm (2 ^ L), Nat.mul_assoc, hp]
  refine ⟨by omega, by omega, rfl, hY1, hY2, by omega, by rw [show 64 - s = L by omega]; exact hl2, by rw [show 64 - s = L by omega], ?_, by omega, rfl, ?_⟩
  · rw [show 64 - s = L by omega, ← Nat.shiftLeft_eq, Nat.shiftLeft_add_eq_or_of_lt hl2]
  · have hv : lo * 2 ^ s % 18446744073709551616 = lo % 2 ^ L * 2 ^ s := by
      rw [hlo2, Nat.mul_add_mod_self_right]; exact Nat.mod_eq_of_lt hr
    rw [hv, Nat.add_mul, Nat.add_mul (hi * _) lo, hlo2]
    rw [Nat.mul_right_comm hi]
    omega
end Go.Proofs.YtcfikdoejmgejaaDoor.Dv
