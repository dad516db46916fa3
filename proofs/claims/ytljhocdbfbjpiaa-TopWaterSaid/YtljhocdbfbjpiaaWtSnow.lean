/-
  The snow packs: their check, their water, and what is added.
-/
import Derived.Test.YtljhocdbfbjpiaaWalkAid
import Derived.Test.YtljhocdbfbjpiaaSnowPlain
namespace Go.Proofs.Ytljhocdbfbjpiaa
open Go.RowKit

/-- A pack as a value. -/
abbrev pk (n m d : Int) : Value := .agg #[.int .i64 n, .int .i64 m, .int .i64 d]

theorem sn_within_any (n lo hi : Int) (w : World) : Calls Try.prog 73 #[.int .i64 n, .int .i64 lo, .int .i64 hi] w fun e w' => e = .returned (.bool (Snow.within n lo hi)) ∧ w = w' := by
  go_enter Try.func73, Try.ntmps73
  go_wp2
  all_goals (go_ret; exact ⟨ret_bool (by rw [Bool.eq_iff_iff]; simp [Snow.within]; omega), rfl⟩)
theorem sn_in_any (n lo hi : Int) (w : World) : Calls Try.prog 87 #[.int .i64 n, .int .i64 lo, .int .i64 hi] w fun e w' => e = .returned (.bool (Snow.within n lo hi)) ∧ w = w' := by
  go_enter Try.func87, Try.ntmps87
  go_wp2
  all_goals (go_ret; exact ⟨ret_bool (by rw [Bool.eq_iff_iff]; simp [Snow.within]; omega), rfl⟩)

theorem sn_right_any (n m d : Int) (w : World) : Calls Try.prog 44 #[pk n m d] w fun e w' => e = .returned (.bool (Snow.right n m d)) ∧ w.alloc (.cells #[.int .i64 n, .int .i64 m, .int .i64 d] 55) = w' := by
  go_enter Try.func44, Try.ntmps44
  go_wp2_with (go_at_call 73; refine (sn_within_any _ _ _ _).mono ?_; rintro e w' ⟨rfl, rfl⟩)
  all_goals (go_ret; exact ⟨ret_bool (by unfold Snow.right; simp [*]), rfl⟩)
theorem sn_rright_any (n m d : Int) (w : World) : Calls Try.prog 61 #[pk n m d] w fun e w' => e = .returned (.bool (Snow.right n m d)) ∧ w.alloc (.cells #[.int .i64 n, .int .i64 m, .int .i64 d] 55) = w' := by
  go_enter Try.func61, Try.ntmps61
  go_wp2_with (go_at_call 87; refine (sn_in_any _ _ _ _).mono ?_; rintro e w' ⟨rfl, rfl⟩)
  all_goals (go_ret; exact ⟨ret_bool (by unfold Snow.right; simp [*]), rfl⟩)

theorem sn_water_any (n m d : Int) (hn : 0 ≤ n) (hn' : n ≤ 20000) (hm : 0 ≤ m) (hm' : m ≤ 20000) (w : World) : Calls Try.prog 45 #[pk n m d] w fun e w' => e = .returned (.int .i64 (n + m)) ∧ w.alloc (.cells #[.int .i64 n, .int .i64 m, .int .i64 d] 55) = w' := by
  go_enter Try.func45, Try.ntmps45
  go_wp2
  all_goals (go_ret; exact ⟨rfl, rfl⟩)

theorem sn_Water_any (n m d : Int) (w : World) : Calls Try.prog 15 #[pk n m d] w fun e w' => e = .returned (.tuple #[.int .i64 (Snow.water n m d).1, .int .i64 (Snow.water n m d).2]) ∧ Below w.heap.size w w' := by
  cases h : Snow.right n m d
  · have e1 : Snow.water n m d = (0, 1) := by simp [Snow.water, h]
    rw [e1]
    clear e1
    go_enter Try.func15, Try.ntmps15
    go_wp2_with (go_at_call 44; refine (sn_right_any _ _ _ _).mono ?_; rintro e w1 ⟨rfl, rfl⟩)
    go_ret2
    exact ⟨rfl, by go_grown⟩
  · have e1 : Snow.water n m d = (n + m, 0) := by simp [Snow.water, h]
    rw [e1]
    clear e1
    obtain ⟨h1, h2, h3, h4, h5, h6⟩ := Snow.right_iff.1 h
    go_enter Try.func15, Try.ntmps15
    go_wp2_with (first
      | (go_at_call 44; refine (sn_right_any _ _ _ _).mono ?_; rintro e w1 ⟨rfl, rfl⟩)
      | (go_at_call 45; refine (sn_water_any _ _ _ h1 h2 h3 h4 _).mono ?_; rintro e w2 ⟨rfl, rfl⟩))
    go_ret2
    exact ⟨rfl, by go_grown⟩

theorem sn_add_any (n m d x y b : Int) (hn : 0 ≤ n) (hn' : n ≤ 20000) (hm : 0 ≤ m) (hm' : m ≤ 20000) (hd : 50 ≤ d) (hd' : d ≤ 900) (hx : 0 ≤ x) (hx' : x ≤ 20000) (hy : 0 ≤ y) (hy' : y ≤ 20000) (hb : 50 ≤ b) (hb' : b ≤ 900) (w : World) :
    Calls Try.prog 74 #[pk n m d, .int .i64 x, .int .i64 y, .int .i64 b] w fun e w' => e = .returned (pk (n + x) (m + y) (Snow.common (n + m) d (x + y) b)) ∧ ∃ c1 c2 c3 : Array Value, w' = ((w.alloc (.cells c1 55)).alloc (.cells c2 55)).alloc (.cells c3 55) := by
  obtain ⟨⟨p1, p2⟩, ⟨p3, p4⟩, ⟨p5, p6⟩, ⟨p7, p8⟩⟩ := Snow.prods (w := n + m) (mm := x + y) (by omega) (by omega) (by omega) (by omega) hd hd' hb hb'
  by_cases h0 : x + y = 0
  · obtain rfl : x = 0 := by omega
    obtain rfl : y = 0 := by omega
    have e1 : Snow.common (n + m) d (0 + 0) b = d := by simp [Snow.common]
    rw [e1]
    clear e1 p1 p2 p3 p4 p5 p6 p7 p8 h0
    go_enter Try.func74, Try.ntmps74
    go_wp2_with (go_at_call 45; refine (sn_water_any _ _ _ hn hn' hm hm' _).mono ?_; rintro e w1 ⟨rfl, rfl⟩)
    go_returns
    exact ⟨by simp, _, _, _, rfl⟩
  · have p9 := Snow.den_pos (w := n + m) (mm := x + y) (by omega) (by omega) hd hb
    have hp : 0 < x + y := by omega
    have e1 : Snow.common (n + m) d (x + y) b = (n + m + (x + y)) * d * b / ((n + m) * b + (x + y) * d) := by simp [Snow.common, h0]
    rw [e1]
    clear e1
    go_enter Try.func74, Try.ntmps74
    go_wp2_with (go_at_call 45; refine (sn_water_any _ _ _ hn hn' hm hm' _).mono ?_; rintro e w1 ⟨rfl, rfl⟩)
    go_returns
    exact ⟨rfl, _, _, _, rfl⟩
end Go.Proofs.Ytljhocdbfbjpiaa
