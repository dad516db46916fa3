/-
  The mathematics of the snow packs: no Go in sight.
-/
namespace Go.Proofs.Ytljhocdbfbjpiaa.Snow
def within (n lo hi : Int) : Bool := decide (lo ≤ n) && decide (n ≤ hi)
def right (n m d : Int) : Bool := within n 0 20000 && within m 0 20000 && within d 50 900

theorem within_iff {n lo hi : Int} : within n lo hi = true ↔ lo ≤ n ∧ n ≤ hi := by
  unfold within; simp
theorem right_iff {n m d : Int} : right n m d = true ↔ 0 ≤ n ∧ n ≤ 20000 ∧ 0 ≤ m ∧ m ≤ 20000 ∧ 50 ≤ d ∧ d ≤ 900 := by
  unfold right; simp only [Bool.and_eq_true, within_iff]; omega

def common (w a mm b : Int) : Int := if mm = 0 then a else (w + mm) * a * b / (w * b + mm * a)

theorem den_pos {w a mm b : Int} (hw : 0 ≤ w) (hm : 0 < mm) (ha : 50 ≤ a) (hb : 50 ≤ b) : 0 < w * b + mm * a := by
  have h1 : 0 ≤ w * b := Int.mul_nonneg hw (by omega)
  have h2 : 0 < mm * a := Int.mul_pos hm (by omega)
  omega

theorem mul3_le {x y z A B C : Int} (hx : 0 ≤ x) (hy : 0 ≤ y) (hz : 0 ≤ z) (hA : x ≤ A) (hB : y ≤ B) (hC : z ≤ C) :
    0 ≤ x * y ∧ x * y ≤ A * B ∧ 0 ≤ x * y * z ∧ x * y * z ≤ A * B * C := by
  have h1 : 0 ≤ x * y := Int.mul_nonneg hx hy
  have h2 : x * y ≤ A * B := Int.mul_le_mul hA hB hy (by omega)
  have h3 : 0 ≤ x * y * z := Int.mul_nonneg h1 hz
  have h4 : x * y * z ≤ A * B * C := Int.mul_le_mul h2 hC hz (by omega)
  exact ⟨h1, h2, h3, h4⟩

/-- The common density lies between both. -/
theorem common_bd {w a mm b : Int} (hw : 0 ≤ w) (hm : 0 ≤ mm) (ha : 50 ≤ a) (hb : 50 ≤ b) :
    min a b ≤ common w a mm b ∧ common w a mm b ≤ max a b := by
  unfold common
  by_cases h0 : mm = 0
  · rw [if_pos h0]; omega
  · rw [if_neg h0]
    have hd := den_pos hw (show 0 < mm by omega) ha hb
    have e1 : (w + mm) * a * b = w * b * a + mm * a * b := by
      rw [Int.add_mul, Int.add_mul, Int.mul_right_comm w a b]
    have wb : 0 ≤ w * b := Int.mul_nonneg hw (by omega)
    have ma : 0 ≤ mm * a := Int.mul_nonneg hm (by omega)
    constructor
    · rw [Int.le_ediv_iff_mul_le hd]
      have k1 : min a b * (w * b + mm * a) = w * b * min a b + mm * a * min a b := by
        rw [Int.mul_add, Int.mul_comm (min a b) (w * b), Int.mul_comm (min a b) (mm * a)]
      have k2 : w * b * min a b ≤ w * b * a := Int.mul_le_mul_of_nonneg_left (by omega) wb
      have k3 : mm * a * min a b ≤ mm * a * b := Int.mul_le_mul_of_nonneg_left (by omega) ma
      omega
    · have : (w + mm) * a * b / (w * b + mm * a) < max a b + 1 := by
        rw [Int.ediv_lt_iff_lt_mul hd]
        have k1 : (max a b + 1) * (w * b + mm * a) = w * b * max a b + mm * a * max a b + (w * b + mm * a) := by
          rw [Int.add_mul, Int.mul_add, Int.mul_comm (max a b) (w * b), Int.mul_comm (max a b) (mm * a), Int.one_mul]
        have k2 : w * b * a ≤ w * b * max a b := Int.mul_le_mul_of_nonneg_left (by omega) wb
        have k3 : mm * a * b ≤ mm * a * max a b := Int.mul_le_mul_of_nonneg_left (by omega) ma
        omega
      omega

def set1 (d : Int) : Int := if d < 500 then d + (500 - d + 49) / 50 else d
def setN : Nat → Int → Int
  | 0, d => d
  | k + 1, d => set1 (setN k d)
theorem setN_succ' (k : Nat) (d : Int) : setN (k + 1) d = setN k (set1 d) := by
  induction k with
  | zero => rfl
  | succ k ih => show set1 (setN (k + 1) d) = set1 (setN k (set1 d)); rw [ih]
theorem setN_add (a b : Nat) (d : Int) : setN (a + b) d = setN b (setN a d) := by
  induction b with
  | zero => rfl
  | succ b ih => show set1 (setN (a + b) d) = set1 (setN b (setN a d)); rw [ih]
theorem set1_bd (d : Int) : d ≤ set1 d ∧ set1 d ≤ max d 500 := by
  unfold set1; split <;> omega
theorem setN_bd (k : Nat) (d : Int) : d ≤ setN k d ∧ setN k d ≤ max d 500 := by
  induction k with
  | zero => show d ≤ d ∧ d ≤ max d 500; omega
  | succ k ih => have := set1_bd (setN k d); show d ≤ set1 (setN k d) ∧ set1 (setN k d) ≤ max d 500; omega
theorem setN_range {k : Nat} {d : Int} (h1 : 50 ≤ d) (h2 : d ≤ 900) : 50 ≤ setN k d ∧ setN k d ≤ 900 := by
  have := setN_bd k d; omega

theorem depth_anti {x d e : Int} (hx : 0 ≤ x) (hd : 0 < d) (h : d ≤ e) : x / e ≤ x / d := by
  rw [Int.le_ediv_iff_mul_le hd]
  have h1 : x / e * e ≤ x := Int.ediv_mul_le _ (by omega)
  have h2 : 0 ≤ x / e := Int.ediv_nonneg hx (by omega)
  have h3 : x / e * d ≤ x / e * e := Int.mul_le_mul_of_nonneg_left h h2
  omega

/-! The mirror functions: a pack and an error. -/
def fall (n m d mm dn : Int) : Int × Int × Int × Int :=
  if right n m d = false then (0, 0, 0, 1) else if (within mm 0 1000 && within dn 50 900) = false then (0, 0, 0, 2)
  else if 20000 < n + mm then (0, 0, 0, 12) else (n + mm, m, common (n + m) d mm dn, 0)
def make (n m d mm : Int) : Int × Int × Int × Int :=
  if right n m d = false then (0, 0, 0, 1) else if within mm 0 1000 = false then (0, 0, 0, 2)
  else if 20000 < m + mm then (0, 0, 0, 12) else (n, m + mm, common (n + m) d mm 450, 0)
def settle (n m d h : Int) : Int × Int × Int × Int :=
  if right n m d = false then (0, 0, 0, 1) else if within h 0 1000 = false then (0, 0, 0, 2)
  else (n, m, setN h.toNat d, 0)
/-- The pack, what has melted, the error. -/
def melt (n m d mm : Int) : Int × Int × Int × Int × Int :=
  if right n m d = false then (0, 0, 0, 0, 1) else if within mm 0 1000 = false then (0, 0, 0, 0, 2)
  else (n - min mm n, m - min (mm - min mm n) m, d, min mm n + min (mm - min mm n) m, 0)
/-- Both packs and the error. -/
def move (n m d n' m' d' mm : Int) : (Int × Int × Int) × (Int × Int × Int) × Int :=
  if (right n m d && right n' m' d') = false then ((0, 0, 0), (0, 0, 0), 1) else if within mm 0 (n + m) = false then ((0, 0, 0), (0, 0, 0), 2)
  else if 20000 < n' + (mm - min mm m) ∨ 20000 < m' + min mm m then ((0, 0, 0), (0, 0, 0), 12)
  else ((n - (mm - min mm m), m - min mm m, d), (n' + (mm - min mm m), m' + min mm m, common (n' + m') d' mm d), 0)
def depth (n m d : Int) : Int × Int := if right n m d = false then (0, 1) else ((n + m) * 1000 / d, 0)
def water (n m d : Int) : Int × Int := if right n m d = false then (0, 1) else (n + m, 0)

/-- What the walk of a common density wants of its products. -/
theorem prods {w a mm b : Int} (hw : 0 ≤ w) (hw' : w ≤ 40000) (hm : 0 ≤ mm) (hm' : mm ≤ 40000) (ha : 50 ≤ a) (ha' : a ≤ 900) (hb : 50 ≤ b) (hb' : b ≤ 900) :
    (0 ≤ (w + mm) * a ∧ (w + mm) * a ≤ 72000000) ∧ (0 ≤ (w + mm) * a * b ∧ (w + mm) * a * b ≤ 64800000000) ∧ (0 ≤ w * b ∧ w * b ≤ 36000000) ∧ (0 ≤ mm * a ∧ mm * a ≤ 36000000) := by
  have h := mul3_le (x := w + mm) (y := a) (z := b) (A := 80000) (B := 900) (C := 900) (by omega) (by omega) (by omega) (by omega) (by omega) (by omega)
  have h1 := mul3_le (x := w) (y := b) (z := b) (A := 40000) (B := 900) (C := 900) (by omega) (by omega) (by omega) (by omega) (by omega) (by omega)
  have h2 := mul3_le (x := mm) (y := a) (z := b) (A := 40000) (B := 900) (C := 900) (by omega) (by omega) (by omega) (by omega) (by omega) (by omega)
  omega
end Go.Proofs.Ytljhocdbfbjpiaa.Snow
