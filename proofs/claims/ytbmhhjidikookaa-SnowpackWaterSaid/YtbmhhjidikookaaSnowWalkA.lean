/-
  The walks of the small functions of the snow packs: each returns what the mirror function says, and makes new blocks at most.
-/
import Derived.Test.YtbmhhjidikookaaRows
import Derived.Test.YtbmhhjidikookaaLawAid
import Derived.Test.YtbmhhjidikookaaSnowPlain
import Derived.WalkKit
import Derived.WalkSpells
import Derived.WalkLawsBesides
import Derived.Handy
import Derived.Lib.Hide
import Derived.BigQuiet
import Derived.Deep.RegionHeld3
namespace Go.Proofs.Ytbmhhjidikookaa
open Go.RowKit

theorem ret_bool {a b : Bool} (h : a = b) : Ending.returned (.bool a) = .returned (.bool b) := by rw [h]
theorem ret_int {k : IntKind} {a b : Int} (h : a = b) : Ending.returned (.int k a) = .returned (.int k b) := by rw [h]

/-- A pack as a value. -/
abbrev pk (n m d : Int) : Value := .agg #[.int .i64 n, .int .i64 m, .int .i64 d]

theorem within_any (n lo hi : Int) (w : World) : Calls Try.prog 30 #[.int .i64 n, .int .i64 lo, .int .i64 hi] w fun e w' => e = .returned (.bool (Snow.within n lo hi)) ∧ w = w' := by
  go_enter Try.func30, Try.ntmps30
  go_wp2
  all_goals (go_ret; exact ⟨ret_bool (by rw [Bool.eq_iff_iff]; simp [Snow.within]; omega), rfl⟩)
theorem in_any (n lo hi : Int) (w : World) : Calls Try.prog 32 #[.int .i64 n, .int .i64 lo, .int .i64 hi] w fun e w' => e = .returned (.bool (Snow.within n lo hi)) ∧ w = w' := by
  go_enter Try.func32, Try.ntmps32
  go_wp2
  all_goals (go_ret; exact ⟨ret_bool (by rw [Bool.eq_iff_iff]; simp [Snow.within]; omega), rfl⟩)

theorem right_any (n m d : Int) (w : World) : Calls Try.prog 21 #[pk n m d] w fun e w' => e = .returned (.bool (Snow.right n m d)) ∧ w.alloc (.cells #[.int .i64 n, .int .i64 m, .int .i64 d] 23) = w' := by
  go_enter Try.func21, Try.ntmps21
  go_wp2_with (go_at_call 30; refine (within_any _ _ _ _).mono ?_; rintro e w' ⟨rfl, rfl⟩)
  all_goals (go_ret; exact ⟨ret_bool (by unfold Snow.right; simp [*]), rfl⟩)
theorem rright_any (n m d : Int) (w : World) : Calls Try.prog 26 #[pk n m d] w fun e w' => e = .returned (.bool (Snow.right n m d)) ∧ w.alloc (.cells #[.int .i64 n, .int .i64 m, .int .i64 d] 23) = w' := by
  go_enter Try.func26, Try.ntmps26
  go_wp2_with (go_at_call 32; refine (in_any _ _ _ _).mono ?_; rintro e w' ⟨rfl, rfl⟩)
  all_goals (go_ret; exact ⟨ret_bool (by unfold Snow.right; simp [*]), rfl⟩)

theorem water_any (n m d : Int) (hn : 0 ≤ n) (hn' : n ≤ 20000) (hm : 0 ≤ m) (hm' : m ≤ 20000) (w : World) : Calls Try.prog 34 #[pk n m d] w fun e w' => e = .returned (.int .i64 (n + m)) ∧ w.alloc (.cells #[.int .i64 n, .int .i64 m, .int .i64 d] 23) = w' := by
  go_enter Try.func34, Try.ntmps34
  go_wp2
  all_goals (go_ret; exact ⟨rfl, rfl⟩)

theorem Water_any (n m d : Int) (w : World) : Calls Try.prog 23 #[pk n m d] w fun e w' => e = .returned (.tuple #[.int .i64 (Snow.water n m d).1, .int .i64 (Snow.water n m d).2]) ∧ Below w.heap.size w w' := by
  cases h : Snow.right n m d
  · have e1 : Snow.water n m d = (0, 1) := by simp [Snow.water, h]
    rw [e1]
    clear e1
    go_enter Try.func23, Try.ntmps23
    go_wp2_with (go_at_call 21; refine (right_any _ _ _ _).mono ?_; rintro e w1 ⟨rfl, rfl⟩)
    go_ret2
    exact ⟨rfl, by go_grown⟩
  · have e1 : Snow.water n m d = (n + m, 0) := by simp [Snow.water, h]
    rw [e1]
    clear e1
    obtain ⟨h1, h2, h3, h4, h5, h6⟩ := Snow.right_iff.1 h
    go_enter Try.func23, Try.ntmps23
    go_wp2_with (first
      | (go_at_call 21; refine (right_any _ _ _ _).mono ?_; rintro e w1 ⟨rfl, rfl⟩)
      | (go_at_call 34; refine (water_any _ _ _ h1 h2 h3 h4 _).mono ?_; rintro e w2 ⟨rfl, rfl⟩))
    go_ret2
    exact ⟨rfl, by go_grown⟩

theorem rWater_any (n m d : Int) (w : World) : Calls Try.prog 24 #[pk n m d] w fun e w' => e = .returned (.tuple #[.int .i64 (Snow.water n m d).1, .int .i64 (Snow.water n m d).2]) ∧ Below w.heap.size w w' := by
  cases h : Snow.right n m d
  · have e1 : Snow.water n m d = (0, 1) := by simp [Snow.water, h]
    rw [e1]
    clear e1
    go_enter Try.func24, Try.ntmps24
    go_wp2_with (go_at_call 26; refine (rright_any _ _ _ _).mono ?_; rintro e w1 ⟨rfl, rfl⟩)
    go_ret2
    exact ⟨rfl, by go_grown⟩
  · have e1 : Snow.water n m d = (n + m, 0) := by simp [Snow.water, h]
    rw [e1]
    clear e1
    obtain ⟨h1, h2, h3, h4, h5, h6⟩ := Snow.right_iff.1 h
    go_enter Try.func24, Try.ntmps24
    go_wp2_with (first
      | (go_at_call 26; refine (rright_any _ _ _ _).mono ?_; rintro e w1 ⟨rfl, rfl⟩))
    go_ret2
    exact ⟨rfl, by go_grown⟩

theorem Depth_any (n m d : Int) (w : World) : Calls Try.prog 22 #[pk n m d] w fun e w' => e = .returned (.tuple #[.int .i64 (Snow.depth n m d).1, .int .i64 (Snow.depth n m d).2]) ∧ Below w.heap.size w w' := by
  cases h : Snow.right n m d
  · have e1 : Snow.depth n m d = (0, 1) := by simp [Snow.depth, h]
    rw [e1]
    clear e1
    go_enter Try.func22, Try.ntmps22
    go_wp2_with (go_at_call 21; refine (right_any _ _ _ _).mono ?_; rintro e w1 ⟨rfl, rfl⟩)
    go_ret2
    exact ⟨rfl, by go_grown⟩
  · have e1 : Snow.depth n m d = ((n + m) * 1000 / d, 0) := by simp [Snow.depth, h]
    rw [e1]
    clear e1
    obtain ⟨h1, h2, h3, h4, h5, h6⟩ := Snow.right_iff.1 h
    go_enter Try.func22, Try.ntmps22
    go_wp2_with (first
      | (go_at_call 21; refine (right_any _ _ _ _).mono ?_; rintro e w1 ⟨rfl, rfl⟩))
    have q1 : IntKind.i64.wrap ((n + m) * 1000) = (n + m) * 1000 := IntWalk.i64_in _ (by omega)
    have q2 : IntKind.i64.wrap (((n + m) * 1000).tdiv d) = (n + m) * 1000 / d := IntWalk.i64_quo _ _ (by omega)
    have q3 : (d == 0) = false := by simp; omega
    have q4 : ¬ d = 0 := by omega
    go_region_held3 (fun w' => w'.cell? ⟨w.heap.size, 0, none⟩ = some (.int .i64 n) ∧ w'.cell? ⟨w.heap.size, 1, none⟩ = some (.int .i64 m) ∧ w'.cell? ⟨w.heap.size, 2, none⟩ = some (.int .i64 d)) (simp [go_sem, World.cell?_alloc_past])
      (first | (go_at_call 34; refine (water_any _ _ _ h1 h2 h3 h4 _).mono ?_; rintro e w2 ⟨rfl, rfl⟩))
    go_wp2
    go_ret2
    exact ⟨rfl, by go_grown⟩

theorem rDepth_any (n m d : Int) (w : World) : Calls Try.prog 25 #[pk n m d] w fun e w' => e = .returned (.tuple #[.int .i64 (Snow.depth n m d).1, .int .i64 (Snow.depth n m d).2]) ∧ Below w.heap.size w w' := by
  cases h : Snow.right n m d
  · have e1 : Snow.depth n m d = (0, 1) := by simp [Snow.depth, h]
    rw [e1]
    clear e1
    go_enter Try.func25, Try.ntmps25
    go_wp2_with (go_at_call 26; refine (rright_any _ _ _ _).mono ?_; rintro e w1 ⟨rfl, rfl⟩)
    go_ret2
    exact ⟨rfl, by go_grown⟩
  · have e1 : Snow.depth n m d = ((n + m) * 1000 / d, 0) := by simp [Snow.depth, h]
    rw [e1]
    clear e1
    obtain ⟨h1, h2, h3, h4, h5, h6⟩ := Snow.right_iff.1 h
    go_enter Try.func25, Try.ntmps25
    go_wp2_with (first
      | (go_at_call 26; refine (rright_any _ _ _ _).mono ?_; rintro e w1 ⟨rfl, rfl⟩))
    go_ret2
    exact ⟨rfl, by go_grown⟩

theorem common_any (a d mm b : Int) (hw : 0 ≤ a) (hw' : a ≤ 40000) (hm : 0 ≤ mm) (hm' : mm ≤ 40000) (hd : 50 ≤ d) (hd' : d ≤ 900) (hb : 50 ≤ b) (hb' : b ≤ 900) (w : World) :
    Calls Try.prog 33 #[.int .i64 a, .int .i64 d, .int .i64 mm, .int .i64 b] w fun e w' => e = .returned (.int .i64 (Snow.common a d mm b)) ∧ w = w' := by
  obtain ⟨⟨p1, p2⟩, ⟨p3, p4⟩, ⟨p5, p6⟩, ⟨p7, p8⟩⟩ := Snow.prods hw hw' hm hm' hd hd' hb hb'
  by_cases h0 : mm = 0
  · subst h0
    go_enter Try.func33, Try.ntmps33
    go_wp2
    go_ret
    exact ⟨ret_int (by simp [Snow.common]), rfl⟩
  · have h1 : (mm == 0) = false := by simpa using h0
    have p9 := Snow.den_pos hw (show 0 < mm by omega) hd hb
    have e1 : Snow.common a d mm b = (a + mm) * d * b / (a * b + mm * d) := by simp [Snow.common, h0]
    rw [e1]
    clear e1
    go_enter Try.func33, Try.ntmps33
    go_wp2
    go_ret
    exact ⟨rfl, rfl⟩

theorem add_any (n m d x y b : Int) (hn : 0 ≤ n) (hn' : n ≤ 20000) (hm : 0 ≤ m) (hm' : m ≤ 20000) (hd : 50 ≤ d) (hd' : d ≤ 900) (hx : 0 ≤ x) (hx' : x ≤ 20000) (hy : 0 ≤ y) (hy' : y ≤ 20000) (hb : 50 ≤ b) (hb' : b ≤ 900) (w : World) :
    Calls Try.prog 31 #[pk n m d, .int .i64 x, .int .i64 y, .int .i64 b] w fun e w' => e = .returned (pk (n + x) (m + y) (Snow.common (n + m) d (x + y) b)) ∧ ∃ c1 c2 c3 : Array Value, w' = ((w.alloc (.cells c1 23)).alloc (.cells c2 23)).alloc (.cells c3 23) := by
  obtain ⟨⟨p1, p2⟩, ⟨p3, p4⟩, ⟨p5, p6⟩, ⟨p7, p8⟩⟩ := Snow.prods (w := n + m) (mm := x + y) (by omega) (by omega) (by omega) (by omega) hd hd' hb hb'
  by_cases h0 : x + y = 0
  · obtain rfl : x = 0 := by omega
    obtain rfl : y = 0 := by omega
    have e1 : Snow.common (n + m) d (0 + 0) b = d := by simp [Snow.common]
    rw [e1]
    clear e1 p1 p2 p3 p4 p5 p6 p7 p8 h0
    go_enter Try.func31, Try.ntmps31
    go_wp2_with (go_at_call 34; refine (water_any _ _ _ hn hn' hm hm' _).mono ?_; rintro e w1 ⟨rfl, rfl⟩)
    go_returns
    exact ⟨by simp, _, _, _, rfl⟩
  · have p9 := Snow.den_pos (w := n + m) (mm := x + y) (by omega) (by omega) hd hb
    have hp : 0 < x + y := by omega
    have e1 : Snow.common (n + m) d (x + y) b = (n + m + (x + y)) * d * b / ((n + m) * b + (x + y) * d) := by simp [Snow.common, h0]
    rw [e1]
    clear e1
    go_enter Try.func31, Try.ntmps31
    go_wp2_with (go_at_call 34; refine (water_any _ _ _ hn hn' hm hm' _).mono ?_; rintro e w1 ⟨rfl, rfl⟩)
    go_returns
    exact ⟨rfl, _, _, _, rfl⟩
end Go.Proofs.Ytbmhhjidikookaa
