/-
  The comparison of two lists gives some number; the members of a set of at most eight.
-/
import Derived.Test.YtljhocdbfbjpiaaWtPumpA
import Derived.Deep.AppendLies
namespace Go.Proofs.Ytljhocdbfbjpiaa
open Go.RowKit

set_option maxRecDepth 20000 in
set_option maxHeartbeats 2000000 in
theorem isNaN_any (x : Int) (w : World) : Calls Try.prog 110 #[.int .i64 x] w fun e w' => e = .returned (.bool false) ∧ w = w' := by
  have h1 : (x != x) = false := by simp
  have h2 : (x == x) = true := by simp
  go_enter Try.func110, Try.ntmps110
  go_wp2
  go_ret
  exact ⟨rfl, rfl⟩
def cmpI (x y : Int) : Int := if x < y then -1 else if y < x then 1 else 0
set_option maxRecDepth 20000 in
set_option maxHeartbeats 2000000 in
theorem cmp_any (x y : Int) (w : World) : Calls Try.prog 95 #[.int .i64 x, .int .i64 y] w fun e w' => e = .returned (.int .i64 (cmpI x y)) ∧ w = w' := by
  by_cases h1 : x < y
  · have hv : cmpI x y = -1 := if_pos h1
    rw [hv]
    clear hv
    go_enter Try.func95, Try.ntmps95
    go_wp2_with fail
    refine (isNaN_any x _).mono ?_
    rintro e w1 ⟨rfl, rfl⟩
    go_wp2_with fail
    refine (isNaN_any y _).mono ?_
    rintro e w1 ⟨rfl, rfl⟩
    go_wp2
    go_ret
    exact ⟨rfl, rfl⟩
  · have h1f : decide (x < y) = false := decide_eq_false h1
    by_cases h2 : y < x
    · have hv : cmpI x y = 1 := by unfold cmpI; rw [if_neg h1, if_pos h2]
      rw [hv]
      clear hv h1
      go_enter Try.func95, Try.ntmps95
      go_wp2_with fail
      refine (isNaN_any x _).mono ?_
      rintro e w1 ⟨rfl, rfl⟩
      go_wp2_with fail
      refine (isNaN_any y _).mono ?_
      rintro e w1 ⟨rfl, rfl⟩
      go_wp2
      go_ret
      exact ⟨rfl, rfl⟩
    · have h2f : decide (y < x) = false := decide_eq_false h2
      have hv : cmpI x y = 0 := by unfold cmpI; rw [if_neg h1, if_neg h2]
      rw [hv]
      clear hv h1 h2
      go_enter Try.func95, Try.ntmps95
      go_wp2_with fail
      refine (isNaN_any x _).mono ?_
      rintro e w1 ⟨rfl, rfl⟩
      go_wp2_with fail
      refine (isNaN_any y _).mono ?_
      rintro e w1 ⟨rfl, rfl⟩
      go_wp2
      go_ret
      exact ⟨rfl, rfl⟩
set_option maxRecDepth 20000 in
set_option maxHeartbeats 2000000 in
theorem compare_any (xs ys : List Int) (m n c d : Nat) (A B : Option Addr) (w : World) (hA : Rd w A xs) (hB : Rd w B ys) (hx : xs.length ≤ 100) (hm : m = xs.length) (hn : n = ys.length) :
    Calls Try.prog 90 #[.slice A m c, .slice B n d] w fun e w' => (∃ r : Int, e = .returned (.int .i64 r)) ∧ w = w' := by
  subst hm hn
  have HA := Lib.hid hA
  have HB := Lib.hid hB
  clear hA hB
  go_enter Try.func90, Try.ntmps90
  go_wp2
  go_loopw [11] (fun i wr => ∃ k : Nat, k ≤ xs.length ∧ i = .int .i64 k ∧ w = wr) (fun i _ => xs.length - (intOf i).toNat)
  case atStart => exact ⟨0, Nat.zero_le _, rfl, rfl⟩
  case round =>
    obtain ⟨k, hk, rfl, rfl⟩ := hrel
    by_cases hlt : k < xs.length
    · have hlti : (k : Int) < (xs.length : Int) := by omega
      obtain ⟨b, off, rfl, hbz, hc⟩ := HA.out.at_ hlt
      have HLT := Lib.hid hlt
      by_cases hge : ys.length ≤ k
      · have hgei : (ys.length : Int) ≤ (k : Int) := by omega
        go_wp2
        go_ret
        exact ⟨⟨_, rfl⟩, rfl⟩
      · have hgei : decide ((ys.length : Int) ≤ (k : Int)) = false := decide_eq_false (by omega)
        have hgej : (k : Int) < (ys.length : Int) := by omega
        obtain ⟨b2, off2, rfl, hbz2, hc2⟩ := HB.out.at_ (i := k) (by omega)
        obtain ⟨x, hx⟩ : ∃ x, x = xs[k]?.getD 0 := ⟨_, rfl⟩
        obtain ⟨y, hy⟩ : ∃ y, y = ys[k]?.getD 0 := ⟨_, rfl⟩
        rw [← hx] at hc
        rw [← hy] at hc2
        obtain ⟨r, hr⟩ : ∃ r, r = cmpI x y := ⟨_, rfl⟩
        have hC := cmp_any x y w
        rw [← hr] at hC
        have HC := Lib.hid hC
        clear hx hy hr hC
        by_cases hz : r = 0
        · have hz1 : (r != 0) = false := by rw [hz]; rfl
          clear hz
          go_wp2_with fail
          refine HC.out.mono ?_
          rintro e w1 ⟨rfl, rfl⟩
          go_wp2
          go_roundw
          case rel => exact ⟨k + 1, HLT.out, by go_num, by first | rfl | trivial⟩
          case measure => have := HLT.out; simp [intOf]; omega
        · have hz1 : (r != 0) = true := bne_iff_ne.2 hz
          clear hz
          go_wp2_with fail
          refine HC.out.mono ?_
          rintro e w1 ⟨rfl, rfl⟩
          go_wp2
          go_ret
          exact ⟨⟨_, rfl⟩, rfl⟩
    · have hlti : decide ((k : Int) < (xs.length : Int)) = false := decide_eq_false (by omega)
      by_cases hl : xs.length < ys.length
      · have hl1 : (xs.length : Int) < (ys.length : Int) := by omega
        go_wp2
        go_ret
        exact ⟨⟨_, rfl⟩, rfl⟩
      · have hl1 : decide ((xs.length : Int) < (ys.length : Int)) = false := decide_eq_false (by omega)
        go_wp2
        go_ret
        exact ⟨⟨_, rfl⟩, rfl⟩
end Go.Proofs.Ytljhocdbfbjpiaa
