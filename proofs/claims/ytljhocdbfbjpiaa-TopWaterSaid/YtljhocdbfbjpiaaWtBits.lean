/-
  The exact part of a weight: the product of 128 bits, divided.
-/
import Derived.Test.YtljhocdbfbjpiaaWalkAid
import Derived.Shelf.Bits.Mul64
import Derived.Laws.Externs
import Derived.IntWalk
namespace Go.Proofs.Ytljhocdbfbjpiaa
open Go.RowKit

set_option maxHeartbeats 1000000 in
theorem mul64_any (x y : Nat) (hx : x < 18446744073709551616) (hy : y < 18446744073709551616) (w : World) :
    Calls Try.prog 107 #[.int .u64 x, .int .u64 y] w fun e w' => e = .returned (.tuple #[.int .u64 ((x * y / 18446744073709551616 : Nat) : Int), .int .u64 ((x * y % 18446744073709551616 : Nat) : Int)]) ∧ w = w' := by
  obtain ⟨bd, bt, bw, hhi⟩ := Lib.mul64_hi x y hx hy
  have ba := Lib.half_mul_le (a := x / 4294967296) (b := y / 4294967296) (by omega) (by omega)
  have bb := Lib.half_mul_le (a := x / 4294967296) (b := y % 4294967296) (by omega) (by omega)
  have bc := Lib.half_mul_le (a := x % 4294967296) (b := y / 4294967296) (by omega) (by omega)
  have ba' : x / 4294967296 * (y / 4294967296) < 18446744073709551616 := by omega
  have bb' : x / 4294967296 * (y % 4294967296) < 18446744073709551616 := by omega
  have bc' : x % 4294967296 * (y / 4294967296) < 18446744073709551616 := by omega
  have bh1 : x / 4294967296 * (y / 4294967296) + (x / 4294967296 * (y % 4294967296) + x % 4294967296 * (y % 4294967296) / 4294967296) / 4294967296 < 18446744073709551616 := by omega
  have bh : x / 4294967296 * (y / 4294967296) + (x / 4294967296 * (y % 4294967296) + x % 4294967296 * (y % 4294967296) / 4294967296) / 4294967296 + ((x / 4294967296 * (y % 4294967296) + x % 4294967296 * (y % 4294967296) / 4294967296) % 4294967296 + x % 4294967296 * (y / 4294967296)) / 4294967296 < 18446744073709551616 := by omega
  go_enter Try.func107, Try.ntmps107
  go_wp2
  simp only [Mul64.maskN x hx, Mul64.maskN y hy, Mul64.divN, Mul64.mulN, Mul64.addN, Mul64.wrapN _ bd, Mul64.wrapN _ bb', Mul64.wrapN _ bt, Mul64.maskN _ bt, Mul64.wrapN _ bc', Mul64.wrapN _ bw, Mul64.wrapN _ ba', Mul64.wrapN _ bh1, Mul64.wrapN _ bh, Mul64.wrapM (x * y)]
  rw [hhi]
  go_ret2
  exact ⟨rfl, rfl⟩
theorem mul64_small (x y p : Nat) (hx : x ≤ 1000000000000) (hy : y ≤ 1000000000000) (hp : x * y = p) (hb : p ≤ 10000000000000000) (w : World) :
    Calls Try.prog 107 #[.int .u64 x, .int .u64 y] w fun e w' => e = .returned (.tuple #[.int .u64 0, .int .u64 (p : Int)]) ∧ w = w' :=
  (mul64_any x y (by omega) (by omega) w).mono fun e w' ⟨h, h'⟩ => ⟨by
    have h1 : x * y / 18446744073709551616 = 0 := by rw [hp]; omega
    have h2 : x * y % 18446744073709551616 = p := by rw [hp]; omega
    rw [h, h1, h2]; rfl, h'⟩
theorem wrap_quot (lo y : Nat) (hlo : lo ≤ 100000000000000000) : IntKind.u64.wrap ((lo : Int) / (y : Int)) = (lo : Int) / (y : Int) := by
  rw [← Int.natCast_ediv]
  exact Mul64.wrapN _ (by have := Nat.div_le_self lo y; omega)
theorem div64_small (lo y : Nat) (hlo : lo ≤ 100000000000000000) (h0 : 0 < y) (hy : y ≤ 1000000000000) (w : World) :
    Calls Try.prog 108 #[.int .u64 0, .int .u64 (lo : Int), .int .u64 (y : Int)] w fun e w' => e = .returned (.tuple #[.int .u64 ((lo / y : Nat) : Int), .int .u64 ((lo % y : Nat) : Int)]) ∧ ∃ n, w' = w.drewN n := by
  have hq := wrap_quot lo y hlo
  go_enter Try.func108, Try.ntmps108
  go_wp2
  go_quiet (fail)
  go_wp2
  go_ret2
  exact ⟨by simp, _, rfl⟩

set_option maxRecDepth 20000 in
set_option maxHeartbeats 1000000 in
theorem exact_any (a b t : Nat) (w : World) (ha : a ≤ 10000000) (hb : b ≤ 1000000000) (h0 : 0 < t) (ht : t ≤ 1000000000000) :
    Calls Try.prog 92 #[.int .i64 (a : Int), .int .i64 (b : Int), .int .i64 (t : Int)] w fun e w' => e = .returned (.tuple #[.int .i64 ((a * b / t : Nat) : Int), .int .i64 ((a * b % t : Nat) : Int)]) ∧ ∃ n, w' = w.drewN n := by
  have hp : a * b ≤ 10000000000000000 := Nat.le_trans (Nat.mul_le_mul ha hb) (by omega)
  obtain ⟨p, hpe⟩ : ∃ p, p = a * b := ⟨_, rfl⟩
  rw [← hpe] at hp ⊢
  have hq1 : p / t ≤ p := Nat.div_le_self p t
  have hq2 : p % t < t := Nat.mod_lt p h0
  have HM := Lib.hid (fun W => mul64_small a b p (by omega) (by omega) hpe.symm hp W)
  have HD := Lib.hid (fun W => div64_small p t (by omega) h0 ht W)
  obtain ⟨Q, hQ⟩ : ∃ Q, Q = p / t := ⟨_, rfl⟩
  obtain ⟨R, hR⟩ : ∃ R, R = p % t := ⟨_, rfl⟩
  rw [← hQ] at hq1 HD ⊢
  rw [← hR] at hq2 HD ⊢
  have e1 : IntKind.u64.wrap (a : Int) = (a : Int) := Mul64.wrapN _ (by omega)
  have e2 : IntKind.u64.wrap (b : Int) = (b : Int) := Mul64.wrapN _ (by omega)
  have e3 : IntKind.u64.wrap (t : Int) = (t : Int) := Mul64.wrapN _ (by omega)
  have e4 : IntKind.i64.wrap (Q : Int) = (Q : Int) := IntWalk.i64_in _ (by omega)
  have e5 : IntKind.i64.wrap (R : Int) = (R : Int) := IntWalk.i64_in _ (by omega)
  clear hpe hQ hR
  go_enter Try.func92, Try.ntmps92
  go_wp2_with fail
  refine (HM.out _).mono ?_
  rintro e w1 ⟨rfl, rfl⟩
  go_wp2_with fail
  refine (HD.out _).mono ?_
  rintro e w1 ⟨rfl, n, rfl⟩
  go_wp2
  go_ret2
  exact ⟨rfl, n, rfl⟩
end Go.Proofs.Ytljhocdbfbjpiaa
