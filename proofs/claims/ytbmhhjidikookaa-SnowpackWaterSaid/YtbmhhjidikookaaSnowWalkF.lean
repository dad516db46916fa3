/-
  The walks of Move of the snow packs, of the reference.
-/
import Derived.Test.YtbmhhjidikookaaSnowWalkE
namespace Go.Proofs.Ytbmhhjidikookaa
open Go.RowKit

theorem rMove_e1 (n m d p q c mm : Int) (w : World) (h : Snow.right n m d = false ∨ Snow.right p q c = false) : Calls Try.prog 20 #[pk n m d, pk p q c, .int .i64 mm] w fun e w' => e = .returned (ppe ((0, 0, 0), (0, 0, 0), 1)) ∧ Below w.heap.size w w' := by
  cases h1 : Snow.right n m d
  · clear h
    go_enter Try.func20, Try.ntmps20
    go_wp2_with (go_at_call 26; refine (rright_any _ _ _ _).mono ?_; rintro e w1 ⟨rfl, rfl⟩)
    go_returns
    exact ⟨rfl, by go_grown⟩
  · have h2 : Snow.right p q c = false := by simpa [h1] using h
    clear h
    go_enter Try.func20, Try.ntmps20
    go_wp2_with (go_at_call 26; refine (rright_any _ _ _ _).mono ?_; rintro e w1 ⟨rfl, rfl⟩)
    go_returns
    exact ⟨rfl, by go_grown⟩
theorem rMove_e2 (n m d p q c mm : Int) (w : World) (h : Snow.right n m d = true) (g : Snow.right p q c = true) (h1 : Snow.within mm 0 (n + m) = false) : Calls Try.prog 20 #[pk n m d, pk p q c, .int .i64 mm] w fun e w' => e = .returned (ppe ((0, 0, 0), (0, 0, 0), 2)) ∧ Below w.heap.size w w' := by
  obtain ⟨a1, a2, a3, a4, a5, a6⟩ := Snow.right_iff.1 h
  go_enter Try.func20, Try.ntmps20
  go_wp2_with (first
      | (go_at_call 26; refine (rright_any _ _ _ _).mono ?_; rintro e w1 ⟨rfl, rfl⟩)
      | (go_at_call 32; refine (in_any _ _ _ _).mono ?_; rintro e w1 ⟨rfl, rfl⟩))
  go_returns
  exact ⟨rfl, by go_grown⟩
theorem rMove_e3 (n m d p q c mm : Int) (w : World) (h : Snow.right n m d = true) (g : Snow.right p q c = true) (h1 : Snow.within mm 0 (n + m) = true) (h4 : 20000 < p + (mm - min mm m) ∨ 20000 < q + min mm m) :
    Calls Try.prog 20 #[pk n m d, pk p q c, .int .i64 mm] w fun e w' => e = .returned (ppe ((0, 0, 0), (0, 0, 0), 12)) ∧ Below w.heap.size w w' := by
  obtain ⟨a1, a2, a3, a4, a5, a6⟩ := Snow.right_iff.1 h
  obtain ⟨b1, b2, b3, b4, b5, b6⟩ := Snow.right_iff.1 g
  obtain ⟨k1, k2⟩ := Snow.within_iff.1 h1
  by_cases hm : m < mm
  · by_cases h5 : 20000 < p + (mm - m)
    · clear h4
      go_enter Try.func20, Try.ntmps20
      go_wp2_with (first
      | (go_at_call 26; refine (rright_any _ _ _ _).mono ?_; rintro e w1 ⟨rfl, rfl⟩)
      | (go_at_call 32; refine (in_any _ _ _ _).mono ?_; rintro e w1 ⟨rfl, rfl⟩))
      go_returns
      exact ⟨rfl, by go_grown⟩
    · have h6 : 20000 < q + m := by omega
      clear h4
      go_enter Try.func20, Try.ntmps20
      go_wp2_with (first
      | (go_at_call 26; refine (rright_any _ _ _ _).mono ?_; rintro e w1 ⟨rfl, rfl⟩)
      | (go_at_call 32; refine (in_any _ _ _ _).mono ?_; rintro e w1 ⟨rfl, rfl⟩))
      go_returns
      exact ⟨rfl, by go_grown⟩
  · have h6 : 20000 < q + mm := by omega
    clear h4
    go_enter Try.func20, Try.ntmps20
    go_wp2_with (first
      | (go_at_call 26; refine (rright_any _ _ _ _).mono ?_; rintro e w1 ⟨rfl, rfl⟩)
      | (go_at_call 32; refine (in_any _ _ _ _).mono ?_; rintro e w1 ⟨rfl, rfl⟩))
    go_returns
    exact ⟨rfl, by go_grown⟩

set_option maxHeartbeats 2000000 in
theorem rMove_okA (n m d p q c mm : Int) (w : World) (h : Snow.right n m d = true) (g : Snow.right p q c = true) (h1 : Snow.within mm 0 (n + m) = true)
    (hm : m < mm) (h2 : p + (mm - min mm m) ≤ 20000) (h3 : q + min mm m ≤ 20000) : Calls Try.prog 20 #[pk n m d, pk p q c, .int .i64 mm] w fun e w' =>
      e = .returned (ppe ((n - (mm - min mm m), m - min mm m, d), (p + (mm - min mm m), q + min mm m, Snow.common (p + q) c mm d), 0)) ∧ Below w.heap.size w w' := by
  obtain ⟨a1, a2, a3, a4, a5, a6⟩ := Snow.right_iff.1 h
  obtain ⟨b1, b2, b3, b4, b5, b6⟩ := Snow.right_iff.1 g
  obtain ⟨k1, k2⟩ := Snow.within_iff.1 h1
  have q2 : IntKind.i64.wrap (p + q) = p + q := IntWalk.i64_in _ (by omega)
  have q1 : IntKind.i64.wrap (p + (mm - m)) = p + (mm - m) := IntWalk.i64_in _ (by omega)
  have q3 : IntKind.i64.wrap (q + m) = q + m := IntWalk.i64_in _ (by omega)
  go_enter Try.func20, Try.ntmps20
  go_wp2_with (first
    | (go_at_call 26; refine (rright_any _ _ _ _).mono ?_; rintro e w1 ⟨rfl, rfl⟩)
    | (go_at_call 32; refine (in_any _ _ _ _).mono ?_; rintro e w1 ⟨rfl, rfl⟩))
  go_region_held3 (fun w' => w'.cell? ⟨w.heap.size, 2, none⟩ = some (.int .i64 d) ∧ w'.cell? ⟨w.heap.size + 1, 0, none⟩ = some (.int .i64 p) ∧ w'.cell? ⟨w.heap.size + 1, 1, none⟩ = some (.int .i64 q) ∧ w'.cell? ⟨w.heap.size + 1, 2, none⟩ = some (.int .i64 c)) (simp [go_sem, World.cell?_alloc_past])
    (first | (go_at_call 33; refine (common_any _ _ _ _ (by omega) (by omega) (by omega) (by omega) b5 b6 a5 a6 _).mono ?_; rintro e w2 ⟨rfl, rfl⟩))
  all_goals
    go_wp2
    go_region
    go_wp2
    go_returns
    refine ⟨ret_ppe (by omega) (by omega) rfl (by omega) (by omega) rfl rfl, by go_grown⟩

set_option maxHeartbeats 2000000 in
theorem rMove_okB (n m d p q c mm : Int) (w : World) (h : Snow.right n m d = true) (g : Snow.right p q c = true) (h1 : Snow.within mm 0 (n + m) = true)
    (hm : mm ≤ m) (h2 : p + (mm - min mm m) ≤ 20000) (h3 : q + min mm m ≤ 20000) : Calls Try.prog 20 #[pk n m d, pk p q c, .int .i64 mm] w fun e w' =>
      e = .returned (ppe ((n - (mm - min mm m), m - min mm m, d), (p + (mm - min mm m), q + min mm m, Snow.common (p + q) c mm d), 0)) ∧ Below w.heap.size w w' := by
  obtain ⟨a1, a2, a3, a4, a5, a6⟩ := Snow.right_iff.1 h
  obtain ⟨b1, b2, b3, b4, b5, b6⟩ := Snow.right_iff.1 g
  obtain ⟨k1, k2⟩ := Snow.within_iff.1 h1
  have q2 : IntKind.i64.wrap (p + q) = p + q := IntWalk.i64_in _ (by omega)
  have q3 : IntKind.i64.wrap (q + mm) = q + mm := IntWalk.i64_in _ (by omega)
  have q4 : IntKind.i64.wrap p = p := IntWalk.i64_in _ (by omega)
  go_enter Try.func20, Try.ntmps20
  go_wp2_with (first
    | (go_at_call 26; refine (rright_any _ _ _ _).mono ?_; rintro e w1 ⟨rfl, rfl⟩)
    | (go_at_call 32; refine (in_any _ _ _ _).mono ?_; rintro e w1 ⟨rfl, rfl⟩))
  go_region_held3 (fun w' => w'.cell? ⟨w.heap.size, 2, none⟩ = some (.int .i64 d) ∧ w'.cell? ⟨w.heap.size + 1, 0, none⟩ = some (.int .i64 p) ∧ w'.cell? ⟨w.heap.size + 1, 1, none⟩ = some (.int .i64 q) ∧ w'.cell? ⟨w.heap.size + 1, 2, none⟩ = some (.int .i64 c)) (simp [go_sem, World.cell?_alloc_past])
    (first | (go_at_call 33; refine (common_any _ _ _ _ (by omega) (by omega) (by omega) (by omega) b5 b6 a5 a6 _).mono ?_; rintro e w2 ⟨rfl, rfl⟩))
  all_goals
    go_wp2
    go_region
    go_wp2
    go_returns
    refine ⟨ret_ppe (by omega) (by omega) rfl (by omega) (by omega) rfl rfl, by go_grown⟩

theorem rMove_ok (n m d p q c mm : Int) (w : World) (h : Snow.right n m d = true) (g : Snow.right p q c = true) (h1 : Snow.within mm 0 (n + m) = true)
    (h2 : p + (mm - min mm m) ≤ 20000) (h3 : q + min mm m ≤ 20000) : Calls Try.prog 20 #[pk n m d, pk p q c, .int .i64 mm] w fun e w' =>
      e = .returned (ppe ((n - (mm - min mm m), m - min mm m, d), (p + (mm - min mm m), q + min mm m, Snow.common (p + q) c mm d), 0)) ∧ Below w.heap.size w w' := by
  by_cases hm : m < mm
  · exact rMove_okA n m d p q c mm w h g h1 hm h2 h3
  · exact rMove_okB n m d p q c mm w h g h1 (by omega) h2 h3

theorem rMove_any (n m d p q c mm : Int) (w : World) : Calls Try.prog 20 #[pk n m d, pk p q c, .int .i64 mm] w fun e w' => e = .returned (ppe (Snow.move n m d p q c mm)) ∧ Below w.heap.size w w' := by
  by_cases h : Snow.right n m d = true ∧ Snow.right p q c = true
  · obtain ⟨h, g⟩ := h
    cases h1 : Snow.within mm 0 (n + m)
    · rw [show Snow.move n m d p q c mm = ((0, 0, 0), (0, 0, 0), 2) by simp [Snow.move, h, g, h1]]
      exact rMove_e2 n m d p q c mm w h g h1
    · by_cases h4 : 20000 < p + (mm - min mm m) ∨ 20000 < q + min mm m
      · rw [show Snow.move n m d p q c mm = ((0, 0, 0), (0, 0, 0), 12) by simp [Snow.move, h, g, h1, h4]]
        exact rMove_e3 n m d p q c mm w h g h1 h4
      · rw [show Snow.move n m d p q c mm = ((n - (mm - min mm m), m - min mm m, d), (p + (mm - min mm m), q + min mm m, Snow.common (p + q) c mm d), 0) by simp [Snow.move, h, g, h1, h4]]
        exact rMove_ok n m d p q c mm w h g h1 (by omega) (by omega)
  · have h' : Snow.right n m d = false ∨ Snow.right p q c = false := by
      cases h1 : Snow.right n m d
      · exact .inl rfl
      · cases h2 : Snow.right p q c
        · exact .inr rfl
        · exact absurd ⟨h1, h2⟩ h
    rw [show Snow.move n m d p q c mm = ((0, 0, 0), (0, 0, 0), 1) by rcases h' with h' | h' <;> simp [Snow.move, h']]
    exact rMove_e1 n m d p q c mm w h'

end Go.Proofs.Ytbmhhjidikookaa
