/-
  The walks of the products and multiples of small numbers.
-/
import Derived.Test.YtcfikdoejmgejaaDoorPtsWalkD
import Derived.Shelf.Bits.Mul64
import Derived.Laws.Externs
import Derived.IntWalk
namespace Go.Proofs.YtcfikdoejmgejaaDoor
open Go.RowKit

theorem inr_yes (a : Int) (w : World) (h1 : -1000000000000 ≤ a) (h2 : a ≤ 1000000000000) :
    Calls Tryd.prog 30 #[.int .i64 a] w fun e w' => e = .returned (.bool true) ∧ w = w' := by
  have h3 : -1125899906842624 ≤ a := by omega
  have h4 : a ≤ 1125899906842624 := by omega
  go_enter Tryd.func30, Tryd.ntmps30
  go_wp2
  go_ret
  exact ⟨ret_bool (by simp; try omega), rfl⟩
theorem wide_yes (a : Int) (w : World) (h1 : -1000000000000 ≤ a) (h2 : a ≤ 1000000000000) :
    Calls Tryd.prog 31 #[.int .i64 a, .int .i64 1125899906842624] w fun e w' => e = .returned (.bool true) ∧ w = w' :=
  (within_any a 1125899906842624 w (by omega) (by omega)).mono fun e w' ⟨h, h'⟩ => ⟨by rw [h]; exact ret_bool (by simp; omega), h'⟩
theorem abs_nat (m : Nat) (w : World) (h : m ≤ 1000000000000) :
    Calls Tryd.prog 33 #[.int .i64 (m : Int)] w fun e w' => e = .returned (.int .u64 (m : Int)) ∧ w = w' := by
  go_enter Tryd.func33, Tryd.ntmps33
  go_wp2
  go_ret
  exact ⟨rfl, rfl⟩
theorem rabs_nat (m : Nat) (w : World) (h : m ≤ 1000000000000) :
    Calls Tryd.prog 37 #[.int .i64 (m : Int)] w fun e w' => e = .returned (.int .i64 (m : Int)) ∧ w = w' := by
  go_enter Tryd.func37, Tryd.ntmps37
  go_wp2
  go_ret
  exact ⟨ret_int (by simp; try omega), rfl⟩
theorem signed_no (m : Nat) (w : World) (h : m ≤ 1000000000000) :
    Calls Tryd.prog 36 #[.int .u64 (m : Int), .bool false] w fun e w' => e = .returned (.tuple #[.int .i64 (m : Int), .int .i64 0]) ∧ w = w' := by
  have h4 : (m : Int) ≤ 1125899906842624 := by omega
  go_enter Tryd.func36, Tryd.ntmps36
  go_wp2
  go_ret2
  exact ⟨rfl, rfl⟩
theorem rsigned_no (n a b : Int) (w : World) (ha : 0 ≤ a) (hb : 0 ≤ b) :
    Calls Tryd.prog 38 #[.int .i64 n, .int .i64 a, .int .i64 b] w fun e w' => e = .returned (.int .i64 n) ∧ w = w' := by
  have h1 : decide (a < 0) = false := by simp; omega
  have h2 : decide (b < 0) = false := by simp; omega
  go_enter Tryd.func38, Tryd.ntmps38
  go_wp2
  go_ret
  exact ⟨rfl, rfl⟩
theorem run_add (x y : Nat) (hx : x + y < 18446744073709551616) (w : World) :
    (callFunc 34 #[.int .u64 x, .int .u64 y, .int .u64 (0 : Int)]).run Tryd.prog w = .ok (.value (.tuple #[.int .u64 ((x + y : Nat) : Int), .int .u64 0])) w := by
  rw [run_callFunc_extern Tryd.func34 (by kernel_rfl) (by kernel_rfl) (by kernel_rfl) (e := add64Entry) (by kernel_rfl), run_add64 x y 0 (by omega) (by omega) (by omega) (by omega)]
  simp only [Result.andThen]
  rw [show ((x : Int) + y + 0) % 18446744073709551616 = ((x + y : Nat) : Int) by omega, show ((x : Int) + y + 0) / 18446744073709551616 = 0 by omega]

set_option maxHeartbeats 1000000 in
theorem mul64_any (x y : Nat) (hx : x < 18446744073709551616) (hy : y < 18446744073709551616) (w : World) :
    Calls Tryd.prog 32 #[.int .u64 x, .int .u64 y] w fun e w' => e = .returned (.tuple #[.int .u64 ((x * y / 18446744073709551616 : Nat) : Int), .int .u64 ((x * y % 18446744073709551616 : Nat) : Int)]) ∧ w = w' := by
  obtain ⟨bd, bt, bw, hhi⟩ := Lib.mul64_hi x y hx hy
  have ba := Lib.half_mul_le (a := x / 4294967296) (b := y / 4294967296) (by omega) (by omega)
  have bb := Lib.half_mul_le (a := x / 4294967296) (b := y % 4294967296) (by omega) (by omega)
  have bc := Lib.half_mul_le (a := x % 4294967296) (b := y / 4294967296) (by omega) (by omega)
  have ba' : x / 4294967296 * (y / 4294967296) < 18446744073709551616 := by omega
  have bb' : x / 4294967296 * (y % 4294967296) < 18446744073709551616 := by omega
  have bc' : x % 4294967296 * (y / 4294967296) < 18446744073709551616 := by omega
  have bh1 : x / 4294967296 * (y / 4294967296) + (x / 4294967296 * (y % 4294967296) + x % 4294967296 * (y % 4294967296) / 4294967296) / 4294967296 < 18446744073709551616 := by omega
  have bh : x / 4294967296 * (y / 4294967296) + (x / 4294967296 * (y % 4294967296) + x % 4294967296 * (y % 4294967296) / 4294967296) / 4294967296 + ((x / 4294967296 * (y % 4294967296) + x % 4294967296 * (y % 4294967296) / 4294967296) % 4294967296 + x % 4294967296 * (y / 4294967296)) / 4294967296 < 18446744073709551616 := by omega
  go_enter Tryd.func32, Tryd.ntmps32
  go_wp2
  simp only [Mul64.maskN x hx, Mul64.maskN y hy, Mul64.divN, Mul64.mulN, Mul64.addN, Mul64.wrapN _ bd, Mul64.wrapN _ bb', Mul64.wrapN _ bt, Mul64.maskN _ bt, Mul64.wrapN _ bc', Mul64.wrapN _ bw, Mul64.wrapN _ ba', Mul64.wrapN _ bh1, Mul64.wrapN _ bh, Mul64.wrapM (x * y)]
  rw [hhi]
  go_ret2
  exact ⟨rfl, rfl⟩
theorem mul64_small (x y p : Nat) (hx : x ≤ 1000000000000) (hy : y ≤ 1000000000000) (hp : x * y = p) (hb : p ≤ 10000000000000000) (w : World) :
    Calls Tryd.prog 32 #[.int .u64 x, .int .u64 y] w fun e w' => e = .returned (.tuple #[.int .u64 0, .int .u64 (p : Int)]) ∧ w = w' :=
  (mul64_any x y (by omega) (by omega) w).mono fun e w' ⟨h, h'⟩ => ⟨by
    have h1 : x * y / 18446744073709551616 = 0 := by rw [hp]; omega
    have h2 : x * y % 18446744073709551616 = p := by rw [hp]; omega
    rw [h, h1, h2]; rfl, h'⟩
theorem wrap_quot (lo y : Nat) (hlo : lo ≤ 100000000000000000) : IntKind.u64.wrap ((lo : Int) / (y : Int)) = (lo : Int) / (y : Int) := by
  rw [← Int.natCast_ediv]
  exact Mul64.wrapN _ (by have := Nat.div_le_self lo y; omega)
theorem div64_small (lo y : Nat) (hlo : lo ≤ 100000000000000000) (h0 : 0 < y) (hy : y ≤ 1000000000000) (w : World) :
    Calls Tryd.prog 35 #[.int .u64 0, .int .u64 (lo : Int), .int .u64 (y : Int)] w fun e w' => e = .returned (.tuple #[.int .u64 ((lo / y : Nat) : Int), .int .u64 ((lo % y : Nat) : Int)]) ∧ ∃ n, w' = w.drewN n := by
  have hq := wrap_quot lo y hlo
  go_enter Tryd.func35, Tryd.ntmps35
  go_wp2
  go_quiet (fail)
  go_wp2
  go_ret2
  exact ⟨by simp, _, rfl⟩

set_option maxHeartbeats 1000000 in
theorem mul_small (m n p : Nat) (w : World) (hm : m ≤ 100000000) (hn : n ≤ 100000) (hp : m * n = p) :
    Calls Tryd.prog 15 #[.int .i64 (m : Int), .int .i64 (n : Int)] w fun e w' => e = .returned (.tuple #[.int .i64 (((p + 500) / 1000 : Nat) : Int), .int .i64 0]) ∧ Below w.heap.size w w' := by
  have hb : p ≤ 10000000000000 := by
    have := Nat.mul_le_mul hm hn
    rw [hp] at this
    exact this
  have HP := Lib.hid hp
  clear hp
  have h1 : decide ((m : Int) < 0) = false := by simp
  have h2 : decide ((n : Int) < 0) = false := by simp
  have h3 : (((p + 500) / 1000 : Nat) : Int) ≤ 1125899906842624 := by omega
  have ha : ∀ W, (callFunc 34 #[.int .u64 (p : Int), .int .u64 500, .int .u64 0]).run Tryd.prog W = .ok (.value (.tuple #[.int .u64 ((p + 500 : Nat) : Int), .int .u64 0])) W := fun W => run_add p 500 (by omega) W
  go_enter Tryd.func15, Tryd.ntmps15
  go_wp2_with fail
  refine (inr_yes _ _ (by omega) (by omega)).mono ?_
  rintro e w1 ⟨rfl, rfl⟩
  go_wp2_with fail
  refine (inr_yes _ _ (by omega) (by omega)).mono ?_
  rintro e w1 ⟨rfl, rfl⟩
  go_wp2_with fail
  refine (abs_nat _ _ (by omega)).mono ?_
  rintro e w1 ⟨rfl, rfl⟩
  go_wp2_with fail
  refine (abs_nat _ _ (by omega)).mono ?_
  rintro e w1 ⟨rfl, rfl⟩
  go_wp2_with fail
  refine (mul64_small m n p (by omega) (by omega) HP.out (by omega) _).mono ?_
  rintro e w1 ⟨rfl, rfl⟩
  go_wp2_with fail
  refine (div64_small (p + 500) 1000 (by omega) (by omega) (by omega) _).mono ?_
  rintro e w1 ⟨rfl, nq, rfl⟩
  go_wp2_with fail
  refine (signed_no ((p + 500) / 1000) _ (by omega)).mono ?_
  rintro e w1 ⟨rfl, rfl⟩
  go_wp2
  go_ret2
  exact ⟨rfl, Joins.below_draws _ _ _⟩

/-- The reference's product of small numbers. -/
theorem rmul_eq (m n : Nat) : m / 1000 * n + (2 * (m % 1000) * n + 1000) / 2000 = (m * n + 500) / 1000 := by
  have h : m * n = 1000 * (m / 1000 * n) + m % 1000 * n := by
    conv => lhs; rw [← Nat.div_add_mod m 1000]
    rw [Nat.add_mul, Nat.mul_assoc]
  rw [h, Nat.mul_assoc 2]
  generalize m / 1000 * n = a
  generalize m % 1000 * n = b
  omega
theorem rmul_bd (m n : Nat) (hm : m ≤ 100000000) (hn : n ≤ 100000) : (0 : Int) ≤ (m : Int) / 1000 * n ∧ (m : Int) / 1000 * n ≤ 10000000000 ∧ (0 : Int) ≤ 2 * ((m : Int) % 1000) * n ∧ 2 * ((m : Int) % 1000) * n ≤ 200000000 := by
  have h1 : m / 1000 * n ≤ 100000 * 100000 := Nat.mul_le_mul (by omega) hn
  have h2 : 2 * (m % 1000) * n ≤ 2000 * 100000 := Nat.mul_le_mul (by omega) hn
  have e1 : (m : Int) / 1000 * n = ((m / 1000 * n : Nat) : Int) := by simp
  have e2 : 2 * ((m : Int) % 1000) * n = ((2 * (m % 1000) * n : Nat) : Int) := by simp
  rw [e1, e2]
  omega
theorem rmul_val (m n p : Nat) (hp : m * n = p) : (m : Int) / 1000 * n + (2 * ((m : Int) % 1000) * n + 1000) / 2000 = (((p + 500) / 1000 : Nat) : Int) := by
  rw [← hp, ← rmul_eq]
  simp
theorem rmul_div (m n : Nat) (hm : m ≤ 100000000) (hn : n ≤ 100000) (h : 0 < (m : Int) / 1000) : (n : Int) ≤ 1125899906842624 / ((m : Int) / 1000) := by
  refine Int.le_ediv_of_mul_le h ?_
  have h1 : n * (m / 1000) ≤ 100000 * 100000 := Nat.mul_le_mul hn (by omega)
  have e1 : (n : Int) * ((m : Int) / 1000) = ((n * (m / 1000) : Nat) : Int) := by simp
  rw [e1]; omega
set_option maxHeartbeats 1000000 in
theorem rmul_small (m n p : Nat) (w : World) (hm : m ≤ 100000000) (hn : n ≤ 100000) (hp : m * n = p) :
    Calls Tryd.prog 16 #[.int .i64 (m : Int), .int .i64 (n : Int)] w fun e w' => e = .returned (.tuple #[.int .i64 (((p + 500) / 1000 : Nat) : Int), .int .i64 0]) ∧ Below w.heap.size w w' := by
  obtain ⟨b1, b2, b3, b4⟩ := rmul_bd m n hm hn
  have HV := Lib.hid (rmul_val m n p hp)
  have hk : (m : Int) / 1000 * n + (2 * ((m : Int) % 1000) * n + 1000) / 2000 ≤ 1000000000000 := by
    generalize (m : Int) / 1000 * n = a at *
    generalize 2 * ((m : Int) % 1000) * n = b at *
    omega
  have hl : (m : Int) / 1000 * n + (2 * ((m : Int) % 1000) * n + 1000) / 2000 ≤ 1125899906842624 := by omega
  clear hp
  have HD := Lib.hid (rmul_div m n hm hn)
  by_cases hz : 0 < (m : Int) / 1000
  · have hd := HD.out hz
    have hdd : decide (0 < (m : Int) / 1000) = true := by simpa using hz
    go_enter Tryd.func16, Tryd.ntmps16
    go_wp2_with fail
    refine (wide_yes _ _ (by omega) (by omega)).mono ?_
    rintro e w1 ⟨rfl, rfl⟩
    go_wp2_with fail
    refine (wide_yes _ _ (by omega) (by omega)).mono ?_
    rintro e w1 ⟨rfl, rfl⟩
    go_wp2_with fail
    refine (rabs_nat _ _ (by omega)).mono ?_
    rintro e w1 ⟨rfl, rfl⟩
    go_wp2_with fail
    refine (rabs_nat _ _ (by omega)).mono ?_
    rintro e w1 ⟨rfl, rfl⟩
    go_wp2_with fail
    refine (rabs_nat _ _ (by omega)).mono ?_
    rintro e w1 ⟨rfl, rfl⟩
    go_wp2_with fail
    refine (rsigned_no _ _ _ _ (by omega) (by omega)).mono ?_
    rintro e w1 ⟨rfl, rfl⟩
    go_wp2
    go_ret2
    exact ⟨by rw [← HV.out]; rfl, Below.refl _ _⟩
  · have hdd : decide (0 < (m : Int) / 1000) = false := by simpa using hz
    have hz' : (m : Int) / 1000 ≤ 0 := by omega
    go_enter Tryd.func16, Tryd.ntmps16
    go_wp2_with fail
    refine (wide_yes _ _ (by omega) (by omega)).mono ?_
    rintro e w1 ⟨rfl, rfl⟩
    go_wp2_with fail
    refine (wide_yes _ _ (by omega) (by omega)).mono ?_
    rintro e w1 ⟨rfl, rfl⟩
    go_wp2_with fail
    refine (rabs_nat _ _ (by omega)).mono ?_
    rintro e w1 ⟨rfl, rfl⟩
    go_wp2_with fail
    refine (rabs_nat _ _ (by omega)).mono ?_
    rintro e w1 ⟨rfl, rfl⟩
    go_wp2_with fail
    refine (rabs_nat _ _ (by omega)).mono ?_
    rintro e w1 ⟨rfl, rfl⟩
    go_wp2_with fail
    refine (rsigned_no _ _ _ _ (by omega) (by omega)).mono ?_
    rintro e w1 ⟨rfl, rfl⟩
    go_wp2
    go_ret2
    exact ⟨by rw [← HV.out]; rfl, Below.refl _ _⟩

theorem rnd_bd (x s : Int) (h1 : 0 ≤ x) (h2 : x ≤ 10000000000) (h3 : 1 ≤ s) (h4 : s ≤ 100000) : 0 ≤ (2 * x + s) / (2 * s) * s ∧ (2 * x + s) / (2 * s) * s ≤ 20000000000 := by
  have a1 : 0 ≤ (2 * x + s) / (2 * s) := Int.ediv_nonneg (by omega) (by omega)
  refine ⟨Int.mul_nonneg a1 (by omega), ?_⟩
  have a2 : (2 * x + s) / (2 * s) * (2 * s) ≤ 2 * x + s := Int.ediv_mul_le _ (by omega)
  rw [Int.mul_comm 2 s, ← Int.mul_assoc] at a2
  rw [Int.mul_comm s 2] at a2
  omega
set_option maxHeartbeats 1000000 in
theorem round_small (x s : Int) (w : World) (h1 : 0 ≤ x) (h2 : x ≤ 10000000000) (h3 : 1 ≤ s) (h4 : s ≤ 100000) :
    Calls Tryd.prog 21 #[.int .i64 x, .int .i64 s] w fun e w' => e = .returned (.tuple #[.int .i64 ((2 * x + s) / (2 * s) * s), .int .i64 0]) ∧ w = w' := by
  obtain ⟨b1, b2⟩ := rnd_bd x s h1 h2 h3 h4
  go_enter Tryd.func21, Tryd.ntmps21
  go_wp2_with fail
  refine (inr_yes _ _ (by omega) (by omega)).mono ?_
  rintro e w1 ⟨rfl, rfl⟩
  go_wp2_with fail
  refine (floor_any _ _ _ (by omega) (by omega) (by omega) (by omega)).mono ?_
  rintro e w1 ⟨rfl, rfl⟩
  go_wp2
  go_ret2
  exact ⟨rfl, rfl⟩
set_option maxHeartbeats 1000000 in
theorem rround_small (x s : Int) (w : World) (h1 : 0 ≤ x) (h2 : x ≤ 10000000000) (h3 : 1 ≤ s) (h4 : s ≤ 100000) :
    Calls Tryd.prog 22 #[.int .i64 x, .int .i64 s] w fun e w' => e = .returned (.tuple #[.int .i64 ((2 * x + s) / (2 * s) * s), .int .i64 0]) ∧ w = w' := by
  obtain ⟨b1, b2⟩ := rnd_bd x s h1 h2 h3 h4
  go_enter Tryd.func22, Tryd.ntmps22
  go_wp2_with fail
  refine (wide_yes _ _ (by omega) (by omega)).mono ?_
  rintro e w1 ⟨rfl, rfl⟩
  go_wp2_with fail
  refine (rfloor_any _ _ _ (by omega) (by omega) (by omega) (by omega)).mono ?_
  rintro e w1 ⟨rfl, rfl⟩
  go_wp2
  go_ret2
  exact ⟨rfl, rfl⟩
end Go.Proofs.YtcfikdoejmgejaaDoor
