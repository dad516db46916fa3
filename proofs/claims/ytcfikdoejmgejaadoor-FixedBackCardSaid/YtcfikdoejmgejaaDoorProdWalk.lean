/-
  The walk of the law's product in halves.
-/
import Derived.Test.YtcfikdoejmgejaaDoorFixWalkB
namespace Go.Proofs.YtcfikdoejmgejaaDoor
open Go.RowKit

/-- The parts of the product in halves. -/
theorem prod_parts (a b : Nat) (ha : a ≤ 1125899906842624) (hb : b ≤ 1125899906842624) :
    ∃ A1 A0 B1 B0 p q mid r s m1 m0 ms low l1 l0 t u hi : Int,
      (a : Int).tdiv 33554432 = A1 ∧ (a : Int).tmod 33554432 = A0 ∧ (b : Int).tdiv 33554432 = B1 ∧ (b : Int).tmod 33554432 = B0 ∧
      IntKind.i64.wrap A1 = A1 ∧ IntKind.i64.wrap B1 = B1 ∧
      IntKind.i64.wrap (A1 * B0) = p ∧ IntKind.i64.wrap (A0 * B1) = q ∧ IntKind.i64.wrap (p + q) = mid ∧
      IntKind.i64.wrap (A0 * B0) = r ∧ mid.tmod 33554432 = m0 ∧ IntKind.i64.wrap (m0 * 33554432) = ms ∧ IntKind.i64.wrap (r + ms) = low ∧
      IntKind.i64.wrap (A1 * B1) = s ∧ mid.tdiv 33554432 = m1 ∧ IntKind.i64.wrap m1 = m1 ∧ IntKind.i64.wrap (s + m1) = t ∧
      low.tdiv 1125899906842624 = l1 ∧ IntKind.i64.wrap l1 = l1 ∧ IntKind.i64.wrap (t + l1) = u ∧ low.tmod 1125899906842624 = l0 ∧
      u = hi ∧ hi = ((a * b / 1125899906842624 : Nat) : Int) ∧ l0 = ((a * b % 1125899906842624 : Nat) : Int) := by
  obtain ⟨x, hx⟩ : ∃ x, x = a / 33554432 := ⟨_, rfl⟩
  obtain ⟨y, hy⟩ : ∃ y, y = a % 33554432 := ⟨_, rfl⟩
  obtain ⟨z, hz⟩ : ∃ z, z = b / 33554432 := ⟨_, rfl⟩
  obtain ⟨v, hv⟩ : ∃ v, v = b % 33554432 := ⟨_, rfl⟩
  have ea : a = x * 33554432 + y := by omega
  have eb : b = z * 33554432 + v := by omega
  have hx1 : x ≤ 33554432 := by omega
  have hy1 : y < 33554432 := by omega
  have hz1 : z ≤ 33554432 := by omega
  have hv1 : v < 33554432 := by omega
  have b1 : x * v ≤ 33554432 * 33554432 := Nat.mul_le_mul hx1 (by omega)
  have b2 : y * z ≤ 33554432 * 33554432 := Nat.mul_le_mul (by omega) hz1
  have b3 : y * v ≤ 33554432 * 33554432 := Nat.mul_le_mul (by omega) (by omega)
  have b4 : x * z ≤ 33554432 * 33554432 := Nat.mul_le_mul hx1 hz1
  have hab : a * b = x * z * 1125899906842624 + (x * v + y * z) * 33554432 + y * v := by
    rw [ea, eb, Nat.add_mul, Nat.mul_add, Nat.mul_add]
    have e1 : x * 33554432 * (z * 33554432) = x * z * 1125899906842624 := by
      rw [Nat.mul_right_comm, ← Nat.mul_assoc x z, Nat.mul_assoc (x * z)]
    have e2 : x * 33554432 * v = x * v * 33554432 := Nat.mul_right_comm _ _ _
    have e3 : y * (z * 33554432) = y * z * 33554432 := (Nat.mul_assoc _ _ _).symm
    rw [e1, e2, e3]; omega
  have c1 : (x : Int) * v = ((x * v : Nat) : Int) := by simp
  have c2 : (y : Int) * z = ((y * z : Nat) : Int) := by simp
  have c3 : (y : Int) * v = ((y * v : Nat) : Int) := by simp
  have c4 : (x : Int) * z = ((x * z : Nat) : Int) := by simp
  generalize x * v = p at *
  generalize y * z = q at *
  generalize y * v = r at *
  generalize x * z = s at *
  obtain ⟨m1, hm1⟩ : ∃ m1, m1 = (p + q) / 33554432 := ⟨_, rfl⟩
  obtain ⟨m0, hm0⟩ : ∃ m0, m0 = (p + q) % 33554432 := ⟨_, rfl⟩
  obtain ⟨l1, hl1⟩ : ∃ l1, l1 = (r + m0 * 33554432) / 1125899906842624 := ⟨_, rfl⟩
  obtain ⟨l0, hl0⟩ : ∃ l0, l0 = (r + m0 * 33554432) % 1125899906842624 := ⟨_, rfl⟩
  refine ⟨x, y, z, v, p, q, ((p + q : Nat) : Int), r, s, m1, m0, ((m0 * 33554432 : Nat) : Int), ((r + m0 * 33554432 : Nat) : Int), l1, l0, ((s + m1 : Nat) : Int), ((s + m1 + l1 : Nat) : Int), ((s + m1 + l1 : Nat) : Int),
    by rw [hx]; rfl, by rw [hy]; rfl, by rw [hz]; rfl, by rw [hv]; rfl, IntWalk.i64_in _ (by omega), IntWalk.i64_in _ (by omega), by rw [c1]; exact IntWalk.i64_in _ (by omega), by rw [c2]; exact IntWalk.i64_in _ (by omega),
    by rw [← Int.natCast_add]; exact IntWalk.i64_in _ (by omega), by rw [c3]; exact IntWalk.i64_in _ (by omega), by rw [hm0]; rfl,
    (IntWalk.i64_in _ (by omega)).trans (by omega), by rw [← Int.natCast_add]; exact IntWalk.i64_in _ (by omega), by rw [c4]; exact IntWalk.i64_in _ (by omega), by rw [hm1]; rfl, IntWalk.i64_in _ (by omega),
    by rw [← Int.natCast_add]; exact IntWalk.i64_in _ (by omega), by rw [hl1]; rfl, IntWalk.i64_in _ (by omega), by rw [← Int.natCast_add]; exact IntWalk.i64_in _ (by omega), by rw [hl0]; rfl, rfl, ?_, ?_⟩
  · congr 1; omega
  · congr 1; omega

set_option maxHeartbeats 2000000 in
theorem product_any (a b : Nat) (w : World) (ha : a ≤ 1125899906842624) (hb : b ≤ 1125899906842624) :
    Calls Tryd.prog 29 #[.int .i64 (a : Int), .int .i64 (b : Int)] w fun e w' =>
      e = .returned (.tuple #[.int .i64 ((a * b / 1125899906842624 : Nat) : Int), .int .i64 ((a * b % 1125899906842624 : Nat) : Int)]) ∧ w = w' := by
  obtain ⟨A1, A0, B1, B0, p, q, mid, r, s, m1, m0, ms, low, l1, l0, t, u, hi, e1, e2, e3, e4, e5, e6, e7, e8, e9, e10, e11, e12, e13, e14, e15, e16, e17, e18, e19, e20, e21, e22, e23, e24⟩ := prod_parts a b ha hb
  rw [← e23, ← e24]
  clear e23 e24 ha hb
  subst e22
  generalize (a : Int) = x at *
  generalize (b : Int) = y at *
  go_enter Tryd.func29, Tryd.ntmps29
  go_wp2
  go_ret2
  exact ⟨rfl, rfl⟩
end Go.Proofs.YtcfikdoejmgejaaDoor
