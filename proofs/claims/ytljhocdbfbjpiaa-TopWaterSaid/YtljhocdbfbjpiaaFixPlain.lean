/-
  The mathematics of piecewise linear functions and of rounding: no Go in sight.
-/
namespace Go.Proofs.Ytljhocdbfbjpiaa.Fix

/-- The X and the Y of a point of a list. -/
def px (ps : List (Int × Int)) (i : Nat) : Int := (ps[i]?.getD (0, 0)).1
def py (ps : List (Int × Int)) (i : Nat) : Int := (ps[i]?.getD (0, 0)).2
/-- What a point must be. -/
def okAt (ps : List (Int × Int)) (i : Nat) : Bool := decide (-1000000000 ≤ px ps i) && decide (px ps i ≤ 1000000000) && decide (-1000000000 ≤ py ps i) && decide (py ps i ≤ 1000000000) && (decide (i = 0) || decide (px ps (i - 1) < px ps i))
def pts (ps : List (Int × Int)) : Bool := decide (1 ≤ ps.length) && decide (ps.length ≤ 64) && (List.range ps.length).all (okAt ps)
structure OkAt (ps : List (Int × Int)) (i : Nat) : Prop where
  x0 : -1000000000 ≤ px ps i
  x1 : px ps i ≤ 1000000000
  y0 : -1000000000 ≤ py ps i
  y1 : py ps i ≤ 1000000000
  up : 0 < i → px ps (i - 1) < px ps i
theorem okAt_iff {ps : List (Int × Int)} {i : Nat} : okAt ps i = true ↔ OkAt ps i := by
  unfold okAt
  simp only [Bool.and_eq_true, Bool.or_eq_true, decide_eq_true_eq]
  constructor
  · rintro ⟨⟨⟨⟨h1, h2⟩, h3⟩, h4⟩, h5⟩
    exact ⟨h1, h2, h3, h4, fun h => by rcases h5 with h5 | h5 <;> omega⟩
  · rintro ⟨h1, h2, h3, h4, h5⟩
    refine ⟨⟨⟨⟨h1, h2⟩, h3⟩, h4⟩, ?_⟩
    by_cases h : i = 0
    · exact .inl h
    · exact .inr (h5 (by omega))
theorem pts_iff {ps : List (Int × Int)} : pts ps = true ↔ 1 ≤ ps.length ∧ ps.length ≤ 64 ∧ ∀ i, i < ps.length → OkAt ps i := by
  unfold pts
  simp only [Bool.and_eq_true, decide_eq_true_eq, List.all_eq_true, List.mem_range, and_assoc, okAt_iff]

/-- The value at x. -/
def atv : List (Int × Int) → Int → Int
  | [], _ => 0
  | [p], _ => p.2
  | p :: q :: r, x => if x ≤ p.1 then p.2 else if x < q.1 then p.2 + (q.2 - p.2) * (x - p.1) / (q.1 - p.1) else atv (q :: r) x

theorem atv_cons (p q : Int × Int) (r : List (Int × Int)) (x : Int) : atv (p :: q :: r) x = if x ≤ p.1 then p.2 else if x < q.1 then p.2 + (q.2 - p.2) * (x - p.1) / (q.1 - p.1) else atv (q :: r) x := by rw [atv]

/-- The X rise strictly. -/
def Inc (ps : List (Int × Int)) : Prop := ∀ i, i + 1 < ps.length → px ps i < px ps (i + 1)
theorem Inc.of_pts {ps : List (Int × Int)} (h : pts ps = true) : Inc ps := fun i hi => by
  have := ((pts_iff.1 h).2.2 (i + 1) hi).up (by omega)
  simpa using this
@[simp] theorem px_zero (p : Int × Int) (r : List (Int × Int)) : px (p :: r) 0 = p.1 := rfl
@[simp] theorem py_zero (p : Int × Int) (r : List (Int × Int)) : py (p :: r) 0 = p.2 := rfl
@[simp] theorem px_succ (p : Int × Int) (r : List (Int × Int)) (i : Nat) : px (p :: r) (i + 1) = px r i := by simp [px]
@[simp] theorem py_succ (p : Int × Int) (r : List (Int × Int)) (i : Nat) : py (p :: r) (i + 1) = py r i := by simp [py]
theorem Inc.tail {p : Int × Int} {r : List (Int × Int)} (h : Inc (p :: r)) : Inc r := fun i hi => by
  have := h (i + 1) (by simpa using hi)
  simpa using this

theorem atv_low {ps : List (Int × Int)} {x : Int} (hx : x ≤ px ps 0) : atv ps x = py ps 0 := by
  match ps with
  | [] => rfl
  | [p] => rfl
  | p :: q :: r => simp at hx; simp [atv, hx]
theorem Inc.le_last {ps : List (Int × Int)} (h : Inc ps) : ∀ i, i < ps.length → px ps i ≤ px ps (ps.length - 1) := by
  intro i hi
  obtain ⟨d, hd⟩ : ∃ d, ps.length - 1 = i + d := ⟨ps.length - 1 - i, by omega⟩
  rw [hd]
  have : i + d < ps.length := by omega
  clear hd
  induction d with
  | zero => exact Int.le_refl _
  | succ d ih =>
    have h1 := ih (by omega)
    have h2 := h (i + d) (by omega)
    rw [← Nat.add_assoc]; omega
theorem atv_high : ∀ {ps : List (Int × Int)} {x : Int}, Inc ps → px ps (ps.length - 1) ≤ x → atv ps x = py ps (ps.length - 1)
  | [], _, _, _ => rfl
  | [p], _, _, _ => rfl
  | p :: q :: r, x, h, hx => by
    have h0 := h 0 (by simp)
    have hl := h.tail.le_last 0 (by simp)
    have e : (p :: q :: r).length - 1 = ((q :: r).length - 1) + 1 := by simp
    rw [e, px_succ] at hx
    rw [e, py_succ]
    simp at h0
    simp at hl
    simp at hx
    have h1 : ¬ x ≤ p.1 := by omega
    have h2 : ¬ x < q.1 := by omega
    rw [atv, if_neg h1, if_neg h2]
    exact atv_high h.tail (by simpa using hx)
theorem atv_mid : ∀ {ps : List (Int × Int)} {x : Int} (k : Nat), Inc ps → k + 1 < ps.length → px ps k ≤ x → x < px ps (k + 1) → px ps 0 < x →
    atv ps x = py ps k + (py ps (k + 1) - py ps k) * (x - px ps k) / (px ps (k + 1) - px ps k)
  | [], _, _, _, h, _, _, _ => by simp at h
  | [p], _, _, _, h, _, _, _ => by simp at h
  | p :: q :: r, x, 0, _, _, h1, h2, h3 => by
    simp at h1 h2 h3
    simp [atv, h2, show ¬ x ≤ p.1 by omega]
  | p :: q :: r, x, k + 1, h, hk, h1, h2, h3 => by
    have h0 := h 0 (by simp)
    simp only [px_succ] at h1 h2
    simp only [px_succ, py_succ]
    have hq : q.1 ≤ x := by
      cases k with
      | zero => simpa using h1
      | succ k =>
        have : ∀ j, j ≤ k + 1 → px (q :: r) 0 ≤ px (q :: r) j := by
          intro j
          induction j with
          | zero => intro _; exact Int.le_refl _
          | succ j ih => intro hj; have := ih (by omega); have := h.tail j (by simp at hk ⊢; omega); omega
        have := this (k + 1) (Nat.le_refl _)
        simp only [px_zero] at this
        omega
    simp at h0 h3
    have h5 : ¬ x ≤ p.1 := by omega
    have h6 : ¬ x < q.1 := by omega
    rw [atv, if_neg h5, if_neg h6]
    by_cases hqx : q.1 < x
    · exact atv_mid k h.tail (by simpa using hk) h1 h2 (by simpa using hqx)
    · have hx : x = q.1 := by omega
      subst hx
      cases k with
      | zero => rw [atv_low (by simp)]; simp
      | succ k =>
        exfalso
        have : ∀ j, j ≤ k → px (q :: r) 0 < px (q :: r) (j + 1) := by
          intro j
          induction j with
          | zero => intro _; exact h.tail 0 (by simp at hk ⊢; omega)
          | succ j ih => intro hj; have := ih (by omega); have := h.tail (j + 1) (by simp at hk ⊢; omega); omega
        have := this k (Nat.le_refl _)
        simp only [px_zero] at this
        omega

/-- A slope's step stays between its ends. -/
theorem slope_up {c t d : Int} (hc : 0 ≤ c) (ht : 0 ≤ t) (htd : t ≤ d) (hd : 0 < d) : 0 ≤ c * t / d ∧ c * t / d ≤ c := by
  refine ⟨Int.ediv_nonneg (Int.mul_nonneg hc ht) (by omega), ?_⟩
  have h1 : c * t ≤ c * d := Int.mul_le_mul_of_nonneg_left htd hc
  have h2 := Int.ediv_le_ediv hd h1
  rwa [Int.mul_ediv_cancel _ (by omega)] at h2
theorem slope_down {c t d : Int} (hc : c ≤ 0) (ht : 0 ≤ t) (htd : t ≤ d) (hd : 0 < d) : c ≤ c * t / d ∧ c * t / d ≤ 0 := by
  have h1 : c * d ≤ c * t := Int.mul_le_mul_of_nonpos_left hc htd
  have h2 := Int.ediv_le_ediv hd h1
  rw [Int.mul_ediv_cancel _ (by omega)] at h2
  have h3 : c * t ≤ 0 := Int.mul_nonpos_of_nonpos_of_nonneg hc ht
  have h4 := Int.ediv_le_ediv hd h3
  rw [Int.zero_ediv] at h4
  exact ⟨h2, h4⟩
theorem slope_bd {a b t d : Int} (ht : 0 ≤ t) (htd : t ≤ d) (hd : 0 < d) {lo hi : Int} (h1 : lo ≤ a) (h2 : a ≤ hi) (h3 : lo ≤ b) (h4 : b ≤ hi) : lo ≤ a + (b - a) * t / d ∧ a + (b - a) * t / d ≤ hi := by
  rcases Int.le_total 0 (b - a) with h | h
  · have := slope_up h ht htd hd; omega
  · have := slope_down h ht htd hd; omega
theorem atv_bd : ∀ {ps : List (Int × Int)} {x lo hi : Int}, Inc ps → 0 < ps.length → (∀ i, i < ps.length → lo ≤ py ps i ∧ py ps i ≤ hi) → lo ≤ atv ps x ∧ atv ps x ≤ hi
  | [], _, _, _, _, h, _ => by simp at h
  | [p], _, _, _, _, _, h => by have := h 0 (by simp); simpa [atv] using this
  | p :: q :: r, x, lo, hi, h, _, hy => by
    have h0 := h 0 (by simp)
    have hp := hy 0 (by simp)
    have hq := hy 1 (by simp)
    simp at h0 hp hq
    rw [atv]
    split
    · exact hp
    split
    · exact slope_bd (by omega) (by omega) (by omega) hp.1 hp.2 hq.1 hq.2
    · exact atv_bd h.tail (by simp) fun i hi => by have := hy (i + 1) (by simpa using hi); simpa using this
/-- The Y do not decrease. -/
def Up (ps : List (Int × Int)) : Prop := ∀ i, i + 1 < ps.length → py ps i ≤ py ps (i + 1)
def Down (ps : List (Int × Int)) : Prop := ∀ i, i + 1 < ps.length → py ps (i + 1) ≤ py ps i
theorem Up.tail {p : Int × Int} {r : List (Int × Int)} (h : Up (p :: r)) : Up r := fun i hi => by
  have := h (i + 1) (by simpa using hi)
  simpa using this
theorem Down.tail {p : Int × Int} {r : List (Int × Int)} (h : Down (p :: r)) : Down r := fun i hi => by
  have := h (i + 1) (by simpa using hi)
  simpa using this
theorem Up.first {ps : List (Int × Int)} (h : Up ps) : ∀ i, i < ps.length → py ps 0 ≤ py ps i := by
  intro i
  induction i with
  | zero => intro _; exact Int.le_refl _
  | succ i ih => intro hi; have := ih (by omega); have := h i hi; omega
theorem Down.first {ps : List (Int × Int)} (h : Down ps) : ∀ i, i < ps.length → py ps i ≤ py ps 0 := by
  intro i
  induction i with
  | zero => intro _; exact Int.le_refl _
  | succ i ih => intro hi; have := ih (by omega); have := h i hi; omega
theorem atv_ge_first : ∀ {ps : List (Int × Int)} {x : Int}, Inc ps → Up ps → py ps 0 ≤ atv ps x
  | [], _, _, _ => Int.le_refl _
  | [p], _, _, _ => Int.le_refl _
  | p :: q :: r, x, h, hu => by
    have h0 := h 0 (by simp)
    have h1 := hu 0 (by simp)
    simp at h0 h1
    rw [atv]
    split
    · exact Int.le_refl _
    split
    · have := slope_up (c := q.2 - p.2) (t := x - p.1) (d := q.1 - p.1) (by omega) (by omega) (by omega) (by omega)
      simp only [py_zero]; omega
    · have := atv_ge_first (x := x) h.tail hu.tail
      simp only [py_zero] at this ⊢; omega
theorem atv_le_first : ∀ {ps : List (Int × Int)} {x : Int}, Inc ps → Down ps → atv ps x ≤ py ps 0
  | [], _, _, _ => Int.le_refl _
  | [p], _, _, _ => Int.le_refl _
  | p :: q :: r, x, h, hu => by
    have h0 := h 0 (by simp)
    have h1 := hu 0 (by simp)
    simp at h0 h1
    rw [atv]
    split
    · exact Int.le_refl _
    split
    · have := slope_down (c := q.2 - p.2) (t := x - p.1) (d := q.1 - p.1) (by omega) (by omega) (by omega) (by omega)
      simp only [py_zero]; omega
    · have := atv_le_first (x := x) h.tail hu.tail
      simp only [py_zero] at this ⊢; omega
theorem atv_mono : ∀ {ps : List (Int × Int)} {x y : Int}, Inc ps → Up ps → x ≤ y → atv ps x ≤ atv ps y
  | [], _, _, _, _, _ => Int.le_refl _
  | [p], _, _, _, _, _ => Int.le_refl _
  | p :: q :: r, x, y, h, hu, hxy => by
    have h0 := h 0 (by simp)
    have h1 := hu 0 (by simp)
    simp at h0 h1
    by_cases hx : x ≤ p.1
    · have := atv_ge_first (x := y) h hu
      rw [atv_low (by simpa using hx)]
      exact this
    by_cases hx2 : x < q.1
    · rw [atv, if_neg hx, if_pos hx2]
      have hs := slope_up (c := q.2 - p.2) (t := x - p.1) (d := q.1 - p.1) (by omega) (by omega) (by omega) (by omega)
      by_cases hy2 : y < q.1
      · rw [atv, if_neg (by omega), if_pos hy2]
        have := Int.ediv_le_ediv (show 0 < q.1 - p.1 by omega) (Int.mul_le_mul_of_nonneg_left (show x - p.1 ≤ y - p.1 by omega) (show 0 ≤ q.2 - p.2 by omega))
        omega
      · rw [atv, if_neg (by omega), if_neg hy2]
        have := atv_ge_first (x := y) h.tail hu.tail
        simp only [py_zero] at this
        omega
    · rw [atv, if_neg hx, if_neg hx2, atv, if_neg (by omega), if_neg (by omega)]
      exact atv_mono h.tail hu.tail hxy
theorem atv_anti : ∀ {ps : List (Int × Int)} {x y : Int}, Inc ps → Down ps → x ≤ y → atv ps y ≤ atv ps x
  | [], _, _, _, _, _ => Int.le_refl _
  | [p], _, _, _, _, _ => Int.le_refl _
  | p :: q :: r, x, y, h, hu, hxy => by
    have h0 := h 0 (by simp)
    have h1 := hu 0 (by simp)
    simp at h0 h1
    by_cases hx : x ≤ p.1
    · have := atv_le_first (x := y) h hu
      rw [atv_low (x := x) (by simpa using hx)]
      exact this
    by_cases hx2 : x < q.1
    · rw [atv_cons p q r x, if_neg hx, if_pos hx2]
      have hs := slope_down (c := q.2 - p.2) (t := x - p.1) (d := q.1 - p.1) (by omega) (by omega) (by omega) (by omega)
      by_cases hy2 : y < q.1
      · rw [atv, if_neg (by omega), if_pos hy2]
        have := Int.ediv_le_ediv (show 0 < q.1 - p.1 by omega) (Int.mul_le_mul_of_nonpos_left (show q.2 - p.2 ≤ 0 by omega) (show x - p.1 ≤ y - p.1 by omega))
        omega
      · rw [atv, if_neg (by omega), if_neg hy2]
        have := atv_le_first (x := y) h.tail hu.tail
        simp only [py_zero] at this
        omega
    · rw [atv_cons p q r x, if_neg hx, if_neg hx2, atv, if_neg (by omega), if_neg (by omega)]
      exact atv_anti h.tail hu.tail hxy
theorem atv_const {ps : List (Int × Int)} {x c : Int} (h : Inc ps) (h0 : 0 < ps.length) (hy : ∀ i, i < ps.length → py ps i = c) : atv ps x = c := by
  have := atv_bd (x := x) (lo := c) (hi := c) h h0 fun i hi => by have := hy i hi; omega
  omega
end Go.Proofs.Ytljhocdbfbjpiaa.Fix
