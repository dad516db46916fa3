/-
  The walks of Make, Melt and Move of the snow packs, of the program and of the reference: both return what the one mirror function says.
-/
import Derived.Test.YtbmhhjidikookaaSnowWalkB
import Derived.RegionTactic
namespace Go.Proofs.Ytbmhhjidikookaa
open Go.RowKit

theorem Make_any (n m d mm : Int) (w : World) : Calls Try.prog 27 #[pk n m d, .int .i64 mm] w fun e w' => e = .returned (pe (Snow.make n m d mm)) ∧ Below w.heap.size w w' := by
  cases h : Snow.right n m d
  · rw [show Snow.make n m d mm = (0, 0, 0, 1) by simp [Snow.make, h]]
    go_enter Try.func27, Try.ntmps27
    go_wp2_with (go_at_call 21; refine (right_any _ _ _ _).mono ?_; rintro e w1 ⟨rfl, rfl⟩)
    go_returns
    exact ⟨rfl, by go_grown⟩
  cases h1 : Snow.within mm 0 1000
  · rw [show Snow.make n m d mm = (0, 0, 0, 2) by simp [Snow.make, h, h1]]
    go_enter Try.func27, Try.ntmps27
    go_wp2_with (first
      | (go_at_call 21; refine (right_any _ _ _ _).mono ?_; rintro e w1 ⟨rfl, rfl⟩)
      | (go_at_call 30; refine (within_any _ _ _ _).mono ?_; rintro e w1 ⟨rfl, rfl⟩))
    go_returns
    exact ⟨rfl, by go_grown⟩
  obtain ⟨r1, r2, r3, r4, r5, r6⟩ := Snow.right_iff.1 h
  obtain ⟨k1, k2⟩ := Snow.within_iff.1 h1
  by_cases h3 : 20000 < m + mm
  · rw [show Snow.make n m d mm = (0, 0, 0, 12) by simp [Snow.make, h, h1, h3]]
    go_enter Try.func27, Try.ntmps27
    go_wp2_with (first
      | (go_at_call 21; refine (right_any _ _ _ _).mono ?_; rintro e w1 ⟨rfl, rfl⟩)
      | (go_at_call 30; refine (within_any _ _ _ _).mono ?_; rintro e w1 ⟨rfl, rfl⟩))
    go_returns
    exact ⟨rfl, by go_grown⟩
  · rw [show Snow.make n m d mm = (n, m + mm, Snow.common (n + m) d mm 450, 0) by simp [Snow.make, h, h1, h3]]
    go_enter Try.func27, Try.ntmps27
    go_wp2_with (first
      | (go_at_call 21; refine (right_any _ _ _ _).mono ?_; rintro e w1 ⟨rfl, rfl⟩)
      | (go_at_call 30; refine (within_any _ _ _ _).mono ?_; rintro e w1 ⟨rfl, rfl⟩)
      | (go_at_call 31; refine (add_any _ _ _ _ _ _ r1 r2 r3 r4 r5 r6 (by omega) (by omega) k1 (by omega) (by omega) (by omega) _).mono ?_; rintro e w1 ⟨rfl, c1, c2, c3, rfl⟩))
    go_returns
    exact ⟨by simp, by go_grown⟩

theorem rMake_any (n m d mm : Int) (w : World) : Calls Try.prog 28 #[pk n m d, .int .i64 mm] w fun e w' => e = .returned (pe (Snow.make n m d mm)) ∧ Below w.heap.size w w' := by
  cases h : Snow.right n m d
  · rw [show Snow.make n m d mm = (0, 0, 0, 1) by simp [Snow.make, h]]
    go_enter Try.func28, Try.ntmps28
    go_wp2_with (go_at_call 26; refine (rright_any _ _ _ _).mono ?_; rintro e w1 ⟨rfl, rfl⟩)
    go_returns
    exact ⟨rfl, by go_grown⟩
  cases h1 : Snow.within mm 0 1000
  · rw [show Snow.make n m d mm = (0, 0, 0, 2) by simp [Snow.make, h, h1]]
    go_enter Try.func28, Try.ntmps28
    go_wp2_with (first
      | (go_at_call 26; refine (rright_any _ _ _ _).mono ?_; rintro e w1 ⟨rfl, rfl⟩)
      | (go_at_call 32; refine (in_any _ _ _ _).mono ?_; rintro e w1 ⟨rfl, rfl⟩))
    go_returns
    exact ⟨rfl, by go_grown⟩
  obtain ⟨r1, r2, r3, r4, r5, r6⟩ := Snow.right_iff.1 h
  obtain ⟨k1, k2⟩ := Snow.within_iff.1 h1
  by_cases h3 : 20000 < m + mm
  · rw [show Snow.make n m d mm = (0, 0, 0, 12) by simp [Snow.make, h, h1, h3]]
    go_enter Try.func28, Try.ntmps28
    go_wp2_with (first
      | (go_at_call 26; refine (rright_any _ _ _ _).mono ?_; rintro e w1 ⟨rfl, rfl⟩)
      | (go_at_call 32; refine (in_any _ _ _ _).mono ?_; rintro e w1 ⟨rfl, rfl⟩))
    go_returns
    exact ⟨rfl, by go_grown⟩
  · rw [show Snow.make n m d mm = (n, m + mm, Snow.common (n + m) d mm 450, 0) by simp [Snow.make, h, h1, h3]]
    have q1 : IntKind.i64.wrap (m + mm) = m + mm := IntWalk.i64_in _ (by omega)
    have q2 : IntKind.i64.wrap (n + m) = n + m := IntWalk.i64_in _ (by omega)
    go_enter Try.func28, Try.ntmps28
    go_wp2_with (first
      | (go_at_call 26; refine (rright_any _ _ _ _).mono ?_; rintro e w1 ⟨rfl, rfl⟩)
      | (go_at_call 32; refine (in_any _ _ _ _).mono ?_; rintro e w1 ⟨rfl, rfl⟩))
    go_region_held3 (fun w' => w'.cell? ⟨w.heap.size, 0, none⟩ = some (.int .i64 n) ∧ w'.cell? ⟨w.heap.size, 1, none⟩ = some (.int .i64 m) ∧ w'.cell? ⟨w.heap.size, 2, none⟩ = some (.int .i64 d)) (simp [go_sem, World.cell?_alloc_past])
      (first | (go_at_call 33; refine (common_any _ _ _ _ (by omega) (by omega) (by omega) (by omega) r5 r6 (by omega) (by omega) _).mono ?_; rintro e w2 ⟨rfl, rfl⟩))
    go_wp2
    go_returns
    exact ⟨by simp, by go_grown⟩

/-- A pack, what has melted and an error as a value. -/
abbrev pme (r : Int × Int × Int × Int × Int) : Value := .tuple #[pk r.1 r.2.1 r.2.2.1, .int .i64 r.2.2.2.1, .int .i64 r.2.2.2.2]
theorem ret_pme {a b c x e a' b' c' x' e' : Int} (h1 : a = a') (h2 : b = b') (h3 : c = c') (h4 : x = x') (h5 : e = e') :
    Ending.returned (.tuple #[.agg #[.int .i64 a, .int .i64 b, .int .i64 c], .int .i64 x, .int .i64 e]) = .returned (pme (a', b', c', x', e')) := by subst h1 h2 h3 h4 h5; rfl

theorem Melt_any (n m d mm : Int) (w : World) : Calls Try.prog 17 #[pk n m d, .int .i64 mm] w fun e w' => e = .returned (pme (Snow.melt n m d mm)) ∧ Below w.heap.size w w' := by
  cases h : Snow.right n m d
  · rw [show Snow.melt n m d mm = (0, 0, 0, 0, 1) by simp [Snow.melt, h]]
    go_enter Try.func17, Try.ntmps17
    go_wp2_with (go_at_call 21; refine (right_any _ _ _ _).mono ?_; rintro e w1 ⟨rfl, rfl⟩)
    go_returns
    exact ⟨rfl, by go_grown⟩
  cases h1 : Snow.within mm 0 1000
  · rw [show Snow.melt n m d mm = (0, 0, 0, 0, 2) by simp [Snow.melt, h, h1]]
    go_enter Try.func17, Try.ntmps17
    go_wp2_with (first
      | (go_at_call 21; refine (right_any _ _ _ _).mono ?_; rintro e w1 ⟨rfl, rfl⟩)
      | (go_at_call 30; refine (within_any _ _ _ _).mono ?_; rintro e w1 ⟨rfl, rfl⟩))
    go_returns
    exact ⟨rfl, by go_grown⟩
  obtain ⟨r1, r2, r3, r4, r5, r6⟩ := Snow.right_iff.1 h
  obtain ⟨k1, k2⟩ := Snow.within_iff.1 h1
  rw [show Snow.melt n m d mm = (n - min mm n, m - min (mm - min mm n) m, d, min mm n + min (mm - min mm n) m, 0) by simp [Snow.melt, h, h1]]
  go_enter Try.func17, Try.ntmps17
  go_wp2_with (first
      | (go_at_call 21; refine (right_any _ _ _ _).mono ?_; rintro e w1 ⟨rfl, rfl⟩)
      | (go_at_call 30; refine (within_any _ _ _ _).mono ?_; rintro e w1 ⟨rfl, rfl⟩))
  all_goals
    go_returns
    exact ⟨ret_pme (by omega) (by omega) (by omega) (by omega) (by omega), by go_grown⟩

theorem rMelt_any (n m d mm : Int) (w : World) : Calls Try.prog 18 #[pk n m d, .int .i64 mm] w fun e w' => e = .returned (pme (Snow.melt n m d mm)) ∧ Below w.heap.size w w' := by
  cases h : Snow.right n m d
  · rw [show Snow.melt n m d mm = (0, 0, 0, 0, 1) by simp [Snow.melt, h]]
    go_enter Try.func18, Try.ntmps18
    go_wp2_with (go_at_call 26; refine (rright_any _ _ _ _).mono ?_; rintro e w1 ⟨rfl, rfl⟩)
    go_returns
    exact ⟨rfl, by go_grown⟩
  cases h1 : Snow.within mm 0 1000
  · rw [show Snow.melt n m d mm = (0, 0, 0, 0, 2) by simp [Snow.melt, h, h1]]
    go_enter Try.func18, Try.ntmps18
    go_wp2_with (first
      | (go_at_call 26; refine (rright_any _ _ _ _).mono ?_; rintro e w1 ⟨rfl, rfl⟩)
      | (go_at_call 32; refine (in_any _ _ _ _).mono ?_; rintro e w1 ⟨rfl, rfl⟩))
    go_returns
    exact ⟨rfl, by go_grown⟩
  obtain ⟨r1, r2, r3, r4, r5, r6⟩ := Snow.right_iff.1 h
  obtain ⟨k1, k2⟩ := Snow.within_iff.1 h1
  rw [show Snow.melt n m d mm = (n - min mm n, m - min (mm - min mm n) m, d, min mm n + min (mm - min mm n) m, 0) by simp [Snow.melt, h, h1]]
  go_enter Try.func18, Try.ntmps18
  go_wp2_with (first
      | (go_at_call 26; refine (rright_any _ _ _ _).mono ?_; rintro e w1 ⟨rfl, rfl⟩)
      | (go_at_call 32; refine (in_any _ _ _ _).mono ?_; rintro e w1 ⟨rfl, rfl⟩))
  all_goals
    go_returns
    exact ⟨ret_pme (by omega) (by omega) (by omega) (by omega) (by omega), by go_grown⟩
end Go.Proofs.Ytbmhhjidikookaa
