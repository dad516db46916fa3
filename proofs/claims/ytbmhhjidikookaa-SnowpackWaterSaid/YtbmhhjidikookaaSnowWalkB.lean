/-
  The walks of Fall and Make of the snow packs, of the program and of the reference: both return what the one mirror function says.
-/
import Derived.Test.YtbmhhjidikookaaSnowWalkA
namespace Go.Proofs.Ytbmhhjidikookaa
open Go.RowKit

/-- A pack and an error as a value. -/
abbrev pe (r : Int × Int × Int × Int) : Value := .tuple #[pk r.1 r.2.1 r.2.2.1, .int .i64 r.2.2.2]

theorem Fall_any (n m d mm dn : Int) (w : World) : Calls Try.prog 13 #[pk n m d, .int .i64 mm, .int .i64 dn] w fun e w' => e = .returned (pe (Snow.fall n m d mm dn)) ∧ Below w.heap.size w w' := by
  cases h : Snow.right n m d
  · rw [show Snow.fall n m d mm dn = (0, 0, 0, 1) by simp [Snow.fall, h]]
    go_enter Try.func13, Try.ntmps13
    go_wp2_with (go_at_call 21; refine (right_any _ _ _ _).mono ?_; rintro e w1 ⟨rfl, rfl⟩)
    go_returns
    exact ⟨rfl, by go_grown⟩
  cases h1 : Snow.within mm 0 1000
  · rw [show Snow.fall n m d mm dn = (0, 0, 0, 2) by simp [Snow.fall, h, h1]]
    go_enter Try.func13, Try.ntmps13
    go_wp2_with (first
      | (go_at_call 21; refine (right_any _ _ _ _).mono ?_; rintro e w1 ⟨rfl, rfl⟩)
      | (go_at_call 30; refine (within_any _ _ _ _).mono ?_; rintro e w1 ⟨rfl, rfl⟩))
    go_returns
    exact ⟨rfl, by go_grown⟩
  cases h2 : Snow.within dn 50 900
  · rw [show Snow.fall n m d mm dn = (0, 0, 0, 2) by simp [Snow.fall, h, h1, h2]]
    go_enter Try.func13, Try.ntmps13
    go_wp2_with (first
      | (go_at_call 21; refine (right_any _ _ _ _).mono ?_; rintro e w1 ⟨rfl, rfl⟩)
      | (go_at_call 30; refine (within_any _ _ _ _).mono ?_; rintro e w1 ⟨rfl, rfl⟩))
    go_returns
    exact ⟨rfl, by go_grown⟩
  obtain ⟨r1, r2, r3, r4, r5, r6⟩ := Snow.right_iff.1 h
  obtain ⟨k1, k2⟩ := Snow.within_iff.1 h1
  obtain ⟨k3, k4⟩ := Snow.within_iff.1 h2
  by_cases h3 : 20000 < n + mm
  · rw [show Snow.fall n m d mm dn = (0, 0, 0, 12) by simp [Snow.fall, h, h1, h2, h3]]
    go_enter Try.func13, Try.ntmps13
    go_wp2_with (first
      | (go_at_call 21; refine (right_any _ _ _ _).mono ?_; rintro e w1 ⟨rfl, rfl⟩)
      | (go_at_call 30; refine (within_any _ _ _ _).mono ?_; rintro e w1 ⟨rfl, rfl⟩))
    go_returns
    exact ⟨rfl, by go_grown⟩
  · rw [show Snow.fall n m d mm dn = (n + mm, m, Snow.common (n + m) d mm dn, 0) by simp [Snow.fall, h, h1, h2, h3]]
    go_enter Try.func13, Try.ntmps13
    go_wp2_with (first
      | (go_at_call 21; refine (right_any _ _ _ _).mono ?_; rintro e w1 ⟨rfl, rfl⟩)
      | (go_at_call 30; refine (within_any _ _ _ _).mono ?_; rintro e w1 ⟨rfl, rfl⟩)
      | (go_at_call 31; refine (add_any _ _ _ _ _ _ r1 r2 r3 r4 r5 r6 k1 (by omega) (by omega) (by omega) k3 k4 _).mono ?_; rintro e w1 ⟨rfl, c1, c2, c3, rfl⟩))
    go_returns
    exact ⟨by simp, by go_grown⟩

theorem rFall_any (n m d mm dn : Int) (w : World) : Calls Try.prog 14 #[pk n m d, .int .i64 mm, .int .i64 dn] w fun e w' => e = .returned (pe (Snow.fall n m d mm dn)) ∧ Below w.heap.size w w' := by
  cases h : Snow.right n m d
  · rw [show Snow.fall n m d mm dn = (0, 0, 0, 1) by simp [Snow.fall, h]]
    go_enter Try.func14, Try.ntmps14
    go_wp2_with (go_at_call 26; refine (rright_any _ _ _ _).mono ?_; rintro e w1 ⟨rfl, rfl⟩)
    go_returns
    exact ⟨rfl, by go_grown⟩
  cases h1 : Snow.within mm 0 1000
  · rw [show Snow.fall n m d mm dn = (0, 0, 0, 2) by simp [Snow.fall, h, h1]]
    go_enter Try.func14, Try.ntmps14
    go_wp2_with (first
      | (go_at_call 26; refine (rright_any _ _ _ _).mono ?_; rintro e w1 ⟨rfl, rfl⟩)
      | (go_at_call 32; refine (in_any _ _ _ _).mono ?_; rintro e w1 ⟨rfl, rfl⟩))
    go_returns
    exact ⟨rfl, by go_grown⟩
  cases h2 : Snow.within dn 50 900
  · rw [show Snow.fall n m d mm dn = (0, 0, 0, 2) by simp [Snow.fall, h, h1, h2]]
    go_enter Try.func14, Try.ntmps14
    go_wp2_with (first
      | (go_at_call 26; refine (rright_any _ _ _ _).mono ?_; rintro e w1 ⟨rfl, rfl⟩)
      | (go_at_call 32; refine (in_any _ _ _ _).mono ?_; rintro e w1 ⟨rfl, rfl⟩))
    go_returns
    exact ⟨rfl, by go_grown⟩
  obtain ⟨r1, r2, r3, r4, r5, r6⟩ := Snow.right_iff.1 h
  obtain ⟨k1, k2⟩ := Snow.within_iff.1 h1
  obtain ⟨k3, k4⟩ := Snow.within_iff.1 h2
  by_cases h3 : 20000 < n + mm
  · rw [show Snow.fall n m d mm dn = (0, 0, 0, 12) by simp [Snow.fall, h, h1, h2, h3]]
    go_enter Try.func14, Try.ntmps14
    go_wp2_with (first
      | (go_at_call 26; refine (rright_any _ _ _ _).mono ?_; rintro e w1 ⟨rfl, rfl⟩)
      | (go_at_call 32; refine (in_any _ _ _ _).mono ?_; rintro e w1 ⟨rfl, rfl⟩))
    go_returns
    exact ⟨rfl, by go_grown⟩
  · rw [show Snow.fall n m d mm dn = (n + mm, m, Snow.common (n + m) d mm dn, 0) by simp [Snow.fall, h, h1, h2, h3]]
    have q1 : IntKind.i64.wrap (n + mm) = n + mm := IntWalk.i64_in _ (by omega)
    have q2 : IntKind.i64.wrap (n + m) = n + m := IntWalk.i64_in _ (by omega)
    go_enter Try.func14, Try.ntmps14
    go_wp2_with (first
      | (go_at_call 26; refine (rright_any _ _ _ _).mono ?_; rintro e w1 ⟨rfl, rfl⟩)
      | (go_at_call 32; refine (in_any _ _ _ _).mono ?_; rintro e w1 ⟨rfl, rfl⟩))
    go_region_held3 (fun w' => w'.cell? ⟨w.heap.size, 0, none⟩ = some (.int .i64 n) ∧ w'.cell? ⟨w.heap.size, 1, none⟩ = some (.int .i64 m) ∧ w'.cell? ⟨w.heap.size, 2, none⟩ = some (.int .i64 d)) (simp [go_sem, World.cell?_alloc_past])
      (first | (go_at_call 33; refine (common_any _ _ _ _ (by omega) (by omega) (by omega) (by omega) r5 r6 k3 k4 _).mono ?_; rintro e w2 ⟨rfl, rfl⟩))
    go_wp2
    go_returns
    exact ⟨by simp, by go_grown⟩
end Go.Proofs.Ytbmhhjidikookaa
