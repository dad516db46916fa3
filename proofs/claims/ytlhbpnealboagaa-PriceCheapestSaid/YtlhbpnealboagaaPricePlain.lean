/-
  The mathematics of prices: no Go in sight.
-/
import Derived.Test.YtlhbpnealboagaaFixPlain
namespace Go.Proofs.Ytlhbpnealboagaa.Pri
open Fix

/-- The rounded product, the nearest multiple. -/
def mulr (a b : Int) : Int := (a * b + 500) / 1000
def rnd (x s : Int) : Int := (2 * x + s) / (2 * s) * s
def low (least step : Int) : Int := (least + step - 1) / step * step
def high (most step : Int) : Int := most / step * step
def yOk (ps : List (Int × Int)) : Bool := (List.range ps.length).all fun i => decide (0 ≤ py ps i) && decide (py ps i ≤ 10000)
def fac (ps : List (Int × Int)) : Bool := pts ps && yOk ps
/-- A rule: the bounds, the step and the points. -/
structure Rule where
  least : Int
  most : Int
  step : Int
  dem : List (Int × Int)
  ahe : List (Int × Int)
def right (r : Rule) : Int :=
  if r.least < 0 ∨ r.most < r.least ∨ 100000000 < r.most ∨ r.step < 1 ∨ 100000 < r.step then 2
  else if r.most < low r.least r.step then 11
  else if fac r.dem = true ∧ fac r.ahe = true then 0 else 1
/-- The factor where all is right. -/
def facv (r : Rule) (b a : Int) : Int := mulr (atv r.dem b) (atv r.ahe a)
def factor (r : Rule) (b a : Int) : Int × Int :=
  if right r ≠ 0 then (0, right r) else if b < 0 ∨ 1000 < b ∨ a < 0 ∨ 400 < a then (0, 2) else (facv r b a, 0)
def clamp (r : Rule) (n : Int) : Int := if n < r.least then low r.least r.step else if r.most < n then high r.most r.step else n
def qv (r : Rule) (base b a : Int) : Int := clamp r (rnd (mulr base (facv r b a)) r.step)
def quote (r : Rule) (base b a : Int) : Int × Int :=
  if (factor r b a).2 ≠ 0 then (0, (factor r b a).2) else if base < 0 ∨ 100000000 < base then (0, 2) else (qv r base b a, 0)

structure Right (r : Rule) : Prop where
  l0 : 0 ≤ r.least
  lm : r.least ≤ r.most
  m1 : r.most ≤ 100000000
  s1 : 1 ≤ r.step
  s2 : r.step ≤ 100000
  lw : low r.least r.step ≤ r.most
  dp : pts r.dem = true
  dy : yOk r.dem = true
  ap : pts r.ahe = true
  ay : yOk r.ahe = true
theorem right_iff {r : Rule} : right r = 0 ↔ Right r := by
  unfold right
  split
  · rename_i h
    refine ⟨fun h => absurd h (by decide), fun H => ?_⟩
    obtain ⟨_, _, _, _, _, _, _, _, _, _⟩ := H
    omega
  rename_i h1
  split
  · refine ⟨fun h => absurd h (by decide), fun H => ?_⟩
    obtain ⟨_, _, _, _, _, _, _, _, _, _⟩ := H
    omega
  rename_i h2
  split
  · rename_i h
    unfold fac at h
    simp only [Bool.and_eq_true] at h
    exact ⟨fun _ => ⟨by omega, by omega, by omega, by omega, by omega, by omega, h.1.1, h.1.2, h.2.1, h.2.2⟩, fun _ => rfl⟩
  · rename_i h
    refine ⟨fun h => absurd h (by decide), fun H => absurd ?_ h⟩
    unfold fac
    simp only [Bool.and_eq_true]
    exact ⟨⟨H.dp, H.dy⟩, H.ap, H.ay⟩
theorem yOk_iff {ps : List (Int × Int)} : yOk ps = true ↔ ∀ i, i < ps.length → 0 ≤ py ps i ∧ py ps i ≤ 10000 := by
  unfold yOk
  simp only [List.all_eq_true, List.mem_range, Bool.and_eq_true, decide_eq_true_eq]
theorem atv_ok {ps : List (Int × Int)} {x : Int} (h : pts ps = true) (hy : yOk ps = true) : 0 ≤ atv ps x ∧ atv ps x ≤ 10000 :=
  atv_bd (Inc.of_pts h) (by have := (pts_iff.1 h).1; omega) (yOk_iff.1 hy)
theorem mulr_bd {a b A B : Int} (ha : 0 ≤ a) (hb : 0 ≤ b) (hA : a ≤ A) (hB : b ≤ B) : 0 ≤ mulr a b ∧ mulr a b ≤ mulr A B := by
  unfold mulr
  have h1 := Int.mul_nonneg ha hb
  have h2 : a * b ≤ A * B := Int.mul_le_mul hA hB hb (by omega)
  omega
theorem facv_bd {r : Rule} (h : Right r) (b a : Int) : 0 ≤ facv r b a ∧ facv r b a ≤ 100000 := by
  have h1 := atv_ok (x := b) h.dp h.dy
  have h2 := atv_ok (x := a) h.ap h.ay
  have := mulr_bd h1.1 h2.1 h1.2 h2.2
  exact ⟨this.1, by have h3 : mulr 10000 10000 = 100000 := by decide
                    unfold facv; omega⟩
theorem base_bd {r : Rule} (h : Right r) {base : Int} (b a : Int) (h0 : 0 ≤ base) (h1 : base ≤ 100000000) : 0 ≤ mulr base (facv r b a) ∧ mulr base (facv r b a) ≤ 10000000000 := by
  have h2 := facv_bd h b a
  have := mulr_bd h0 h2.1 h1 h2.2
  exact ⟨this.1, by have h3 : mulr 100000000 100000 = 10000000000 := by decide
                    omega⟩
theorem rnd_mono {x y s : Int} (hs : 1 ≤ s) (h : x ≤ y) : rnd x s ≤ rnd y s := by
  unfold rnd
  have := Int.ediv_le_ediv (show 0 < 2 * s by omega) (show 2 * x + s ≤ 2 * y + s by omega)
  exact Int.mul_le_mul_of_nonneg_right this (by omega)
/-- The least multiple from least on, the greatest one up to most. -/
theorem low_ge {l s : Int} (hs : 1 ≤ s) : l ≤ low l s ∧ low l s < l + s := by
  unfold low
  have h := Int.emod_add_mul_ediv (l + s - 1) s
  have h1 := Int.emod_nonneg (l + s - 1) (show s ≠ 0 by omega)
  have h2 := Int.emod_lt_of_pos (l + s - 1) (show 0 < s by omega)
  rw [Int.mul_comm s] at h
  omega
theorem high_le {m s : Int} (hs : 1 ≤ s) : high m s ≤ m ∧ m - s < high m s := by
  unfold high
  have h := Int.emod_add_mul_ediv m s
  have h1 := Int.emod_nonneg m (show s ≠ 0 by omega)
  have h2 := Int.emod_lt_of_pos m (show 0 < s by omega)
  rw [Int.mul_comm s] at h
  omega
/-- A multiple that is at least least is at least the least one, and so on. -/
theorem low_min {l s k : Int} (hs : 1 ≤ s) (h : l ≤ k * s) : low l s ≤ k * s := by
  unfold low
  have h1 : (l + s - 1) / s ≤ k := by
    have h2 : (l + s - 1) / s < k + 1 := Int.ediv_lt_of_lt_mul (by omega) (by rw [Int.add_mul]; omega)
    omega
  exact Int.mul_le_mul_of_nonneg_right h1 (by omega)
theorem high_max {m s k : Int} (hs : 1 ≤ s) (h : k * s ≤ m) : k * s ≤ high m s := by
  unfold high
  have h1 : k ≤ m / s := Int.le_ediv_of_mul_le (by omega) h
  exact Int.mul_le_mul_of_nonneg_right h1 (by omega)
theorem low_le_high {r : Rule} (h : Right r) : low r.least r.step ≤ high r.most r.step := high_max h.s1 h.lw
theorem clamp_bd {r : Rule} (h : Right r) (k : Int) : r.least ≤ clamp r (k * r.step) ∧ clamp r (k * r.step) ≤ r.most ∧ ∃ j, clamp r (k * r.step) = j * r.step := by
  have h1 := low_ge (l := r.least) h.s1
  have h2 := high_le (m := r.most) h.s1
  have h3 := low_le_high h
  have h4 := h.lw
  unfold clamp
  split
  · exact ⟨by omega, by omega, _, rfl⟩
  split
  · exact ⟨by omega, by omega, _, rfl⟩
  · exact ⟨by omega, by omega, _, rfl⟩
theorem clamp_mono {r : Rule} (h : Right r) {k j : Int} (hkj : k ≤ j) : clamp r (k * r.step) ≤ clamp r (j * r.step) := by
  have h1 := low_ge (l := r.least) h.s1
  have h2 := high_le (m := r.most) h.s1
  have h3 := low_le_high h
  have h4 := h.lw
  have h5 : k * r.step ≤ j * r.step := Int.mul_le_mul_of_nonneg_right hkj (by have := h.s1; omega)
  have h6 := @low_min r.least r.step j h.s1
  have h7 := @high_max r.most r.step k h.s1
  unfold clamp
  repeat' split
  all_goals omega
theorem qv_mono_of {r : Rule} (h : Right r) {x y : Int} (hxy : x ≤ y) : clamp r (rnd x r.step) ≤ clamp r (rnd y r.step) := by
  have hs := h.s1
  unfold rnd
  exact clamp_mono h (Int.ediv_le_ediv (show 0 < 2 * r.step by omega) (by omega))
theorem qv_bd {r : Rule} (h : Right r) (base b a : Int) : r.least ≤ qv r base b a ∧ qv r base b a ≤ r.most ∧ qv r base b a % r.step = 0 := by
  obtain ⟨h1, h2, j, h3⟩ := clamp_bd h ((2 * mulr base (facv r b a) + r.step) / (2 * r.step))
  unfold qv rnd
  exact ⟨h1, h2, by rw [h3]; exact Int.mul_emod_left _ _⟩
theorem mulr_mono {a b A B : Int} (ha : 0 ≤ a) (hb : 0 ≤ b) (hA : a ≤ A) (hB : b ≤ B) : mulr a b ≤ mulr A B := (mulr_bd ha hb hA hB).2
theorem qv_base {r : Rule} (h : Right r) {x y : Int} (b a : Int) (hx : 0 ≤ x) (hxy : x ≤ y) : qv r x b a ≤ qv r y b a :=
  qv_mono_of h (mulr_mono hx (facv_bd h b a).1 hxy (Int.le_refl _))
theorem qv_rises {r : Rule} (h : Right r) (hu : Up r.dem) {base b b' : Int} (a : Int) (h0 : 0 ≤ base) (hb : b ≤ b') : qv r base b a ≤ qv r base b' a := by
  refine qv_mono_of h (mulr_mono h0 (facv_bd h b a).1 (Int.le_refl _) ?_)
  exact mulr_mono (atv_ok h.dp h.dy).1 (atv_ok h.ap h.ay).1 (atv_mono (Inc.of_pts h.dp) hu hb) (Int.le_refl _)
theorem qv_falls {r : Rule} (h : Right r) (hu : Down r.ahe) {base a a' : Int} (b : Int) (h0 : 0 ≤ base) (ha : a ≤ a') : qv r base b a' ≤ qv r base b a := by
  refine qv_mono_of h (mulr_mono h0 (facv_bd h b a').1 (Int.le_refl _) ?_)
  exact mulr_mono (atv_ok h.dp h.dy).1 (atv_ok h.ap h.ay).1 (Int.le_refl _) (atv_anti (Inc.of_pts h.ap) hu ha)
theorem qv_plain {r : Rule} (h : Right r) {base b a k : Int} (hf : facv r b a = 1000) (hb : base = k * r.step) (h1 : r.least ≤ base) (h2 : base ≤ r.most) : qv r base b a = base := by
  have hs := h.s1
  have e1 : mulr base 1000 = base := by unfold mulr; omega
  have e2 : rnd base r.step = base := by
    unfold rnd
    rw [hb, show 2 * (k * r.step) + r.step = r.step + (2 * r.step) * k by rw [← Int.mul_assoc, Int.mul_right_comm, Int.add_comm]]
    rw [Int.add_mul_ediv_left _ _ (by omega), Int.ediv_eq_zero_of_lt (by omega) (by omega), Int.zero_add]
  unfold qv
  rw [hf, e1, e2]
  unfold clamp
  rw [if_neg (by omega), if_neg (by omega)]

/-- The cheapest day from day k on, with the best so far. -/
def cheapF (r : Rule) (base : Int) : List Int → Int → Int → Int × Int → Int × Int × Int
  | [], _, _, bst => (bst.1, bst.2, 0)
  | b :: l, k, first, bst =>
    if (quote r base b (first + k)).2 ≠ 0 then (0, 0, (quote r base b (first + k)).2)
    else cheapF r base l (k + 1) first (if k = 0 ∨ (quote r base b (first + k)).1 < bst.2 then (k, (quote r base b (first + k)).1) else bst)
def cheap (r : Rule) (base first : Int) (l : List Int) : Int × Int × Int :=
  if l.length = 0 then (0, 0, 8) else if 100 < l.length then (0, 0, 4) else cheapF r base l 0 first (0, 0)
end Go.Proofs.Ytlhbpnealboagaa.Pri
