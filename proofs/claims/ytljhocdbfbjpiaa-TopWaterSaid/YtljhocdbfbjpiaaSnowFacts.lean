/-
  What the mirror functions of the snow packs answer: water and densities. No Go in sight.
-/
import Derived.Test.YtljhocdbfbjpiaaSnowPlain
namespace Go.Proofs.Ytljhocdbfbjpiaa.Snow

theorem common_range {w a mm b : Int} (hw : 0 ≤ w) (hm : 0 ≤ mm) (ha : 50 ≤ a) (ha' : a ≤ 900) (hb : 50 ≤ b) (hb' : b ≤ 900) : 50 ≤ common w a mm b ∧ common w a mm b ≤ 900 := by
  have := common_bd hw hm ha hb; omega

theorem fall_facts {n m d mm dn a b c x : Int} (h : (a, b, c, x) = fall n m d mm dn) :
    (x = 0 ∧ 0 ≤ mm ∧ mm ≤ 1000 ∧ right a b c = true ∧ a + b = n + m + mm ∧ min d dn ≤ c ∧ c ≤ max d dn) ∨ (x ≠ 0) := by
  unfold fall at h
  by_cases h1 : right n m d = false
  · rw [if_pos h1] at h; simp only [Prod.mk.injEq] at h; right; omega
  rw [if_neg h1] at h
  by_cases h2 : (within mm 0 1000 && within dn 50 900) = false
  · rw [if_pos h2] at h; simp only [Prod.mk.injEq] at h; right; omega
  rw [if_neg h2] at h
  simp only [Bool.not_eq_false, Bool.and_eq_true, within_iff, right_iff] at h1 h2
  by_cases h3 : 20000 < n + mm
  · rw [if_pos h3] at h; simp only [Prod.mk.injEq] at h; right; omega
  rw [if_neg h3] at h
  simp only [Prod.mk.injEq] at h
  obtain ⟨rfl, rfl, rfl, rfl⟩ := h
  have k := common_bd (w := n + b) (a := d) (mm := mm) (b := dn) (by omega) (by omega) (by omega) (by omega)
  refine .inl ⟨rfl, by omega, by omega, right_iff.2 (by omega), by omega, by omega, by omega⟩

theorem make_facts {n m d mm a b c x : Int} (h : (a, b, c, x) = make n m d mm) :
    (x = 0 ∧ 0 ≤ mm ∧ mm ≤ 1000 ∧ right a b c = true ∧ a + b = n + m + mm) ∨ (x ≠ 0) := by
  unfold make at h
  by_cases h1 : right n m d = false
  · rw [if_pos h1] at h; simp only [Prod.mk.injEq] at h; right; omega
  rw [if_neg h1] at h
  by_cases h2 : within mm 0 1000 = false
  · rw [if_pos h2] at h; simp only [Prod.mk.injEq] at h; right; omega
  rw [if_neg h2] at h
  simp only [Bool.not_eq_false, within_iff, right_iff] at h1 h2
  by_cases h3 : 20000 < m + mm
  · rw [if_pos h3] at h; simp only [Prod.mk.injEq] at h; right; omega
  rw [if_neg h3] at h
  simp only [Prod.mk.injEq] at h
  obtain ⟨rfl, rfl, rfl, rfl⟩ := h
  have k := common_bd (w := a + m) (a := d) (mm := mm) (b := 450) (by omega) (by omega) (by omega) (by omega)
  refine .inl ⟨rfl, by omega, by omega, right_iff.2 (by omega), by omega⟩

theorem settle_facts {n m d h' a b c x : Int} (h : (a, b, c, x) = settle n m d h') :
    (x = 0 ∧ right a b c = true ∧ a + b = n + m ∧ d ≤ c ∧ c ≤ max d 500) ∨ (x ≠ 0) := by
  unfold settle at h
  by_cases h1 : right n m d = false
  · rw [if_pos h1] at h; simp only [Prod.mk.injEq] at h; right; omega
  rw [if_neg h1] at h
  by_cases h2 : within h' 0 1000 = false
  · rw [if_pos h2] at h; simp only [Prod.mk.injEq] at h; right; omega
  rw [if_neg h2] at h
  simp only [Bool.not_eq_false, within_iff, right_iff] at h1 h2
  simp only [Prod.mk.injEq] at h
  obtain ⟨rfl, rfl, rfl, rfl⟩ := h
  have k := setN_bd h'.toNat d
  refine .inl ⟨rfl, right_iff.2 (by omega), by omega, by omega, by omega⟩

theorem melt_facts {n m d mm a b c y x : Int} (h : (a, b, c, y, x) = melt n m d mm) :
    (x = 0 ∧ 0 ≤ y ∧ y ≤ mm ∧ y ≤ 1000 ∧ right a b c = true ∧ a + b = n + m - y) ∨ (x ≠ 0) := by
  unfold melt at h
  by_cases h1 : right n m d = false
  · rw [if_pos h1] at h; simp only [Prod.mk.injEq] at h; right; omega
  rw [if_neg h1] at h
  by_cases h2 : within mm 0 1000 = false
  · rw [if_pos h2] at h; simp only [Prod.mk.injEq] at h; right; omega
  rw [if_neg h2] at h
  simp only [Bool.not_eq_false, within_iff, right_iff] at h1 h2
  simp only [Prod.mk.injEq] at h
  obtain ⟨h3, h4, h5, h6, h7⟩ := h
  refine .inl ⟨h7, by omega, by omega, by omega, right_iff.2 (by omega), by omega⟩

theorem move_facts {n m d p q r mm a b c a' b' c' x : Int} (h : ((a, b, c), (a', b', c'), x) = move n m d p q r mm) :
    (x = 0 ∧ 0 ≤ mm ∧ mm ≤ n + m ∧ right a b c = true ∧ a + b = n + m - mm ∧ right a' b' c' = true ∧ a' + b' = p + q + mm ∧ min d r ≤ c' ∧ c' ≤ max d r) ∨ (x ≠ 0) := by
  unfold move at h
  by_cases h1 : (right n m d && right p q r) = false
  · rw [if_pos h1] at h; simp only [Prod.mk.injEq] at h; right; omega
  rw [if_neg h1] at h
  by_cases h2 : within mm 0 (n + m) = false
  · rw [if_pos h2] at h; simp only [Prod.mk.injEq] at h; right; omega
  rw [if_neg h2] at h
  simp only [Bool.not_eq_false, Bool.and_eq_true, within_iff, right_iff] at h1 h2
  by_cases h3 : 20000 < p + (mm - min mm m) ∨ 20000 < q + min mm m
  · rw [if_pos h3] at h; simp only [Prod.mk.injEq] at h; right; omega
  rw [if_neg h3] at h
  simp only [Prod.mk.injEq] at h
  obtain ⟨⟨e1, e2, e3⟩, ⟨e4, e5, e6⟩, e7⟩ := h
  have k := common_bd (w := p + q) (a := r) (mm := mm) (b := d) (by omega) (by omega) (by omega) (by omega)
  refine .inl ⟨e7, by omega, by omega, right_iff.2 (by omega), by omega, right_iff.2 (by omega), by omega, by omega, by omega⟩

/-- Settling twice is settling once. -/
theorem settle_twice {n m d : Int} (h : right n m d = true) (a b : Nat) (ha : a ≤ 255) (hb : b ≤ 255) :
    settle n m d a = (n, m, setN a d, 0) ∧ settle n m (setN a d) b = (n, m, setN (a + b) d, 0) ∧ settle n m d ((a : Int) + b) = (n, m, setN (a + b) d, 0) := by
  have hr := right_iff.1 h
  have k := setN_range (k := a) (d := d) (by omega) (by omega)
  have h2 : right n m (setN a d) = true := right_iff.2 (by omega)
  refine ⟨?_, ?_, ?_⟩
  · unfold settle
    rw [if_neg (by simp [h]), if_neg (by simp only [Bool.not_eq_false, within_iff]; omega)]
    rfl
  · unfold settle
    rw [if_neg (by simp [h2]), if_neg (by simp only [Bool.not_eq_false, within_iff]; omega), setN_add]
    rfl
  · unfold settle
    rw [if_neg (by simp [h]), if_neg (by simp only [Bool.not_eq_false, within_iff]; omega)]
    rfl
end Go.Proofs.Ytljhocdbfbjpiaa.Snow
