/-
  The pack after snow was made; the counters of a system.
-/
import Derived.Test.YtljhocdbfbjpiaaWtSnow
namespace Go.Proofs.Ytljhocdbfbjpiaa
open Go.RowKit

abbrev pe (r : Int × Int × Int × Int) : Value := .tuple #[pk r.1 r.2.1 r.2.2.1, .int .i64 r.2.2.2]

theorem sn_Make_any (n m d mm : Int) (w : World) : Calls Try.prog 40 #[pk n m d, .int .i64 mm] w fun e w' => e = .returned (pe (Snow.make n m d mm)) ∧ Below w.heap.size w w' := by
  cases h : Snow.right n m d
  · rw [show Snow.make n m d mm = (0, 0, 0, 1) by simp [Snow.make, h]]
    go_enter Try.func40, Try.ntmps40
    go_wp2_with (go_at_call 44; refine (sn_right_any _ _ _ _).mono ?_; rintro e w1 ⟨rfl, rfl⟩)
    go_returns
    exact ⟨rfl, by go_grown⟩
  cases h1 : Snow.within mm 0 1000
  · rw [show Snow.make n m d mm = (0, 0, 0, 2) by simp [Snow.make, h, h1]]
    go_enter Try.func40, Try.ntmps40
    go_wp2_with (first
      | (go_at_call 44; refine (sn_right_any _ _ _ _).mono ?_; rintro e w1 ⟨rfl, rfl⟩)
      | (go_at_call 73; refine (sn_within_any _ _ _ _).mono ?_; rintro e w1 ⟨rfl, rfl⟩))
    go_returns
    exact ⟨rfl, by go_grown⟩
  obtain ⟨r1, r2, r3, r4, r5, r6⟩ := Snow.right_iff.1 h
  obtain ⟨k1, k2⟩ := Snow.within_iff.1 h1
  by_cases h3 : 20000 < m + mm
  · rw [show Snow.make n m d mm = (0, 0, 0, 12) by simp [Snow.make, h, h1, h3]]
    go_enter Try.func40, Try.ntmps40
    go_wp2_with (first
      | (go_at_call 44; refine (sn_right_any _ _ _ _).mono ?_; rintro e w1 ⟨rfl, rfl⟩)
      | (go_at_call 73; refine (sn_within_any _ _ _ _).mono ?_; rintro e w1 ⟨rfl, rfl⟩))
    go_returns
    exact ⟨rfl, by go_grown⟩
  · rw [show Snow.make n m d mm = (n, m + mm, Snow.common (n + m) d mm 450, 0) by simp [Snow.make, h, h1, h3]]
    go_enter Try.func40, Try.ntmps40
    go_wp2_with (first
      | (go_at_call 44; refine (sn_right_any _ _ _ _).mono ?_; rintro e w1 ⟨rfl, rfl⟩)
      | (go_at_call 73; refine (sn_within_any _ _ _ _).mono ?_; rintro e w1 ⟨rfl, rfl⟩)
      | (go_at_call 74; refine (sn_add_any _ _ _ _ _ _ r1 r2 r3 r4 r5 r6 (by omega) (by omega) k1 (by omega) (by omega) (by omega) _).mono ?_; rintro e w1 ⟨rfl, c1, c2, c3, rfl⟩))
    go_returns
    exact ⟨by simp, by go_grown⟩


/-- A system as a value. -/
abbrev sysV (v0 v1 v2 v3 v4 v5 : Value) (p l t wa lo en inn : Int) : Value := .agg #[v0, v1, v2, v3, v4, v5, .int .i64 p, .int .i64 l, .int .i64 t, .int .i64 wa, .int .i64 lo, .int .i64 en, .int .i64 inn]
def upB (n most : Int) : Bool := decide (0 ≤ n ∧ n ≤ most)
theorem upTo_any (n most : Int) (w : World) : Calls Try.prog 75 #[.int .i64 n, .int .i64 most] w fun e w' => e = .returned (.bool (upB n most)) ∧ w = w' := by
  go_enter Try.func75, Try.ntmps75
  go_wp2
  all_goals (go_ret; exact ⟨ret_bool (by rw [Bool.eq_iff_iff]; simp [upB]; omega), rfl⟩)
def cntB (wa lo en inn : Int) : Bool := upB wa 1125899906842624 && upB lo 1125899906842624 && upB en 1125899906842624 && upB inn 1125899906842624
set_option maxRecDepth 20000 in
set_option maxHeartbeats 1000000 in
theorem counters_any (v0 v1 v2 v3 v4 v5 : Value) (p l t wa lo en inn : Int) (w : World) (_h0 : v0.oneCell' = true) (_h1 : v1.oneCell' = true) (_h2 : v2.oneCell' = true) (_h3 : v3.oneCell' = true) (_h4 : v4.oneCell' = true) (_h5 : v5.oneCell' = true) :
    Calls Try.prog 41 #[sysV v0 v1 v2 v3 v4 v5 p l t wa lo en inn] w fun e w' => e = .returned (.bool (cntB wa lo en inn)) ∧ Below w.heap.size w w' := by
  go_enter Try.func41, Try.ntmps41
  go_wp2_with (go_at_call 75; refine (upTo_any _ _ _).mono ?_; rintro e w' ⟨rfl, rfl⟩)
  all_goals (go_ret; exact ⟨ret_bool (by unfold cntB; simp [*]), by go_grown⟩)
end Go.Proofs.Ytljhocdbfbjpiaa
