/-
  The walks of Move of the snow packs, of the program and of the reference: both return what the one mirror function says.
-/
import Derived.Test.YtbmhhjidikookaaSnowWalkD
namespace Go.Proofs.Ytbmhhjidikookaa
open Go.RowKit

/-- Two packs and an error as a value. -/
abbrev ppe (r : (Int × Int × Int) × (Int × Int × Int) × Int) : Value := .tuple #[pk r.1.1 r.1.2.1 r.1.2.2, pk r.2.1.1 r.2.1.2.1 r.2.1.2.2, .int .i64 r.2.2]
theorem ret_ppe {a b c p q r e a' b' c' p' q' r' e' : Int} (h1 : a = a') (h2 : b = b') (h3 : c = c') (h4 : p = p') (h5 : q = q') (h6 : r = r') (h7 : e = e') :
    Ending.returned (.tuple #[.agg #[.int .i64 a, .int .i64 b, .int .i64 c], .agg #[.int .i64 p, .int .i64 q, .int .i64 r], .int .i64 e]) = .returned (ppe ((a', b', c'), (p', q', r'), e')) := by
  subst h1 h2 h3 h4 h5 h6 h7; rfl

theorem Move_e1 (n m d p q c mm : Int) (w : World) (h : Snow.right n m d = false ∨ Snow.right p q c = false) : Calls Try.prog 19 #[pk n m d, pk p q c, .int .i64 mm] w fun e w' => e = .returned (ppe ((0, 0, 0), (0, 0, 0), 1)) ∧ Below w.heap.size w w' := by
  cases h1 : Snow.right n m d
  · clear h
    go_enter Try.func19, Try.ntmps19
    go_wp2_with (go_at_call 21; refine (right_any _ _ _ _).mono ?_; rintro e w1 ⟨rfl, rfl⟩)
    go_returns
    exact ⟨rfl, by go_grown⟩
  · have h2 : Snow.right p q c = false := by simpa [h1] using h
    clear h
    go_enter Try.func19, Try.ntmps19
    go_wp2_with (go_at_call 21; refine (right_any _ _ _ _).mono ?_; rintro e w1 ⟨rfl, rfl⟩)
    go_returns
    exact ⟨rfl, by go_grown⟩
theorem Move_e2 (n m d p q c mm : Int) (w : World) (h : Snow.right n m d = true) (g : Snow.right p q c = true) (h1 : Snow.within mm 0 (n + m) = false) : Calls Try.prog 19 #[pk n m d, pk p q c, .int .i64 mm] w fun e w' => e = .returned (ppe ((0, 0, 0), (0, 0, 0), 2)) ∧ Below w.heap.size w w' := by
  obtain ⟨a1, a2, a3, a4, a5, a6⟩ := Snow.right_iff.1 h
  go_enter Try.func19, Try.ntmps19
  go_wp2_with (first
      | (go_at_call 21; refine (right_any _ _ _ _).mono ?_; rintro e w1 ⟨rfl, rfl⟩)
      | (go_at_call 30; refine (within_any _ _ _ _).mono ?_; rintro e w1 ⟨rfl, rfl⟩)
      | (go_at_call 34; refine (water_any _ _ _ a1 a2 a3 a4 _).mono ?_; rintro e w2 ⟨rfl, rfl⟩))
  go_returns
  exact ⟨rfl, by go_grown⟩
theorem Move_e3 (n m d p q c mm : Int) (w : World) (h : Snow.right n m d = true) (g : Snow.right p q c = true) (h1 : Snow.within mm 0 (n + m) = true) (h4 : 20000 < p + (mm - min mm m) ∨ 20000 < q + min mm m) :
    Calls Try.prog 19 #[pk n m d, pk p q c, .int .i64 mm] w fun e w' => e = .returned (ppe ((0, 0, 0), (0, 0, 0), 12)) ∧ Below w.heap.size w w' := by
  obtain ⟨a1, a2, a3, a4, a5, a6⟩ := Snow.right_iff.1 h
  obtain ⟨b1, b2, b3, b4, b5, b6⟩ := Snow.right_iff.1 g
  obtain ⟨k1, k2⟩ := Snow.within_iff.1 h1
  by_cases hm : m < mm
  · by_cases h5 : 20000 < p + (mm - m)
    · clear h4
      go_enter Try.func19, Try.ntmps19
      go_wp2_with (first
      | (go_at_call 21; refine (right_any _ _ _ _).mono ?_; rintro e w1 ⟨rfl, rfl⟩)
      | (go_at_call 30; refine (within_any _ _ _ _).mono ?_; rintro e w1 ⟨rfl, rfl⟩)
      | (go_at_call 34; refine (water_any _ _ _ a1 a2 a3 a4 _).mono ?_; rintro e w2 ⟨rfl, rfl⟩))
      go_returns
      exact ⟨rfl, by go_grown⟩
    · have h6 : 20000 < q + m := by omega
      clear h4
      go_enter Try.func19, Try.ntmps19
      go_wp2_with (first
      | (go_at_call 21; refine (right_any _ _ _ _).mono ?_; rintro e w1 ⟨rfl, rfl⟩)
      | (go_at_call 30; refine (within_any _ _ _ _).mono ?_; rintro e w1 ⟨rfl, rfl⟩)
      | (go_at_call 34; refine (water_any _ _ _ a1 a2 a3 a4 _).mono ?_; rintro e w2 ⟨rfl, rfl⟩))
      go_returns
      exact ⟨rfl, by go_grown⟩
  · have h6 : 20000 < q + mm := by omega
    clear h4
    go_enter Try.func19, Try.ntmps19
    go_wp2_with (first
      | (go_at_call 21; refine (right_any _ _ _ _).mono ?_; rintro e w1 ⟨rfl, rfl⟩)
      | (go_at_call 30; refine (within_any _ _ _ _).mono ?_; rintro e w1 ⟨rfl, rfl⟩)
      | (go_at_call 34; refine (water_any _ _ _ a1 a2 a3 a4 _).mono ?_; rintro e w2 ⟨rfl, rfl⟩))
    go_returns
    exact ⟨rfl, by go_grown⟩

theorem Move_ok (n m d p q c mm : Int) (w : World) (h : Snow.right n m d = true) (g : Snow.right p q c = true) (h1 : Snow.within mm 0 (n + m) = true)
    (h2 : p + (mm - min mm m) ≤ 20000) (h3 : q + min mm m ≤ 20000) : Calls Try.prog 19 #[pk n m d, pk p q c, .int .i64 mm] w fun e w' =>
      e = .returned (ppe ((n - (mm - min mm m), m - min mm m, d), (p + (mm - min mm m), q + min mm m, Snow.common (p + q) c mm d), 0)) ∧ Below w.heap.size w w' := by
  obtain ⟨a1, a2, a3, a4, a5, a6⟩ := Snow.right_iff.1 h
  obtain ⟨b1, b2, b3, b4, b5, b6⟩ := Snow.right_iff.1 g
  obtain ⟨k1, k2⟩ := Snow.within_iff.1 h1
  go_enter Try.func19, Try.ntmps19
  go_wp2_with (first
      | (go_at_call 21; refine (right_any _ _ _ _).mono ?_; rintro e w1 ⟨rfl, rfl⟩)
      | (go_at_call 30; refine (within_any _ _ _ _).mono ?_; rintro e w1 ⟨rfl, rfl⟩)
      | (go_at_call 34; refine (water_any _ _ _ a1 a2 a3 a4 _).mono ?_; rintro e w2 ⟨rfl, rfl⟩)
      | (go_at_call 31; refine (add_any _ _ _ _ _ _ b1 b2 b3 b4 b5 b6 (by omega) (by omega) (by omega) (by omega) a5 a6 _).mono ?_; rintro e w1 ⟨rfl, c1, c2, c3, rfl⟩))
  all_goals
    go_region
    go_wp2
    go_returns
    refine ⟨ret_ppe (by omega) (by omega) rfl (by omega) (by omega) ?_ rfl, by go_grown⟩
    first | rfl | (congr 1; omega)

theorem Move_any (n m d p q c mm : Int) (w : World) : Calls Try.prog 19 #[pk n m d, pk p q c, .int .i64 mm] w fun e w' => e = .returned (ppe (Snow.move n m d p q c mm)) ∧ Below w.heap.size w w' := by
  by_cases h : Snow.right n m d = true ∧ Snow.right p q c = true
  · obtain ⟨h, g⟩ := h
    cases h1 : Snow.within mm 0 (n + m)
    · rw [show Snow.move n m d p q c mm = ((0, 0, 0), (0, 0, 0), 2) by simp [Snow.move, h, g, h1]]
      exact Move_e2 n m d p q c mm w h g h1
    · by_cases h4 : 20000 < p + (mm - min mm m) ∨ 20000 < q + min mm m
      · rw [show Snow.move n m d p q c mm = ((0, 0, 0), (0, 0, 0), 12) by simp [Snow.move, h, g, h1, h4]]
        exact Move_e3 n m d p q c mm w h g h1 h4
      · rw [show Snow.move n m d p q c mm = ((n - (mm - min mm m), m - min mm m, d), (p + (mm - min mm m), q + min mm m, Snow.common (p + q) c mm d), 0) by simp [Snow.move, h, g, h1, h4]]
        exact Move_ok n m d p q c mm w h g h1 (by omega) (by omega)
  · have h' : Snow.right n m d = false ∨ Snow.right p q c = false := by
      cases h1 : Snow.right n m d
      · exact .inl rfl
      · cases h2 : Snow.right p q c
        · exact .inr rfl
        · exact absurd ⟨h1, h2⟩ h
    rw [show Snow.move n m d p q c mm = ((0, 0, 0), (0, 0, 0), 1) by rcases h' with h' | h' <;> simp [Snow.move, h']]
    exact Move_e1 n m d p q c mm w h'

end Go.Proofs.Ytbmhhjidikookaa
