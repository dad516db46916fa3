/-
  With enough water the hours are planned one by one: the mathematics.
-/
import Derived.Test.YtnblfhoogcdcfaaPlanRefE
namespace Go.Proofs.Ytnblfhoogcdcfaa.Plan

def allW (gs : List Gun) : Nat → Int
  | 0 => 0
  | m + 1 => allW gs m + (gAt gs m).water
theorem mem_water {gs : List Gun} {hs : List Hour} (a : Acc gs hs) (s : Nat) : ∀ m, 0 ≤ tot (tW gs) (memL m s) ∧ tot (tW gs) (memL m s) ≤ allW gs m
  | 0 => ⟨Int.le_refl _, Int.le_refl _⟩
  | m + 1 => by
    obtain ⟨h1, h2⟩ := mem_water a s m
    have hg := (a.gun m).1
    rw [memL_succ]
    simp only [allW]
    by_cases hb : s.testBit m = true
    · rw [if_pos hb, tot_app]
      have e : tot (tW gs) [(m : Int)] = (gAt gs m).water := by simp [tot, tW]
      rw [e]; omega
    · rw [if_neg hb]; omega
theorem uW_all {gs : List Gun} {hs : List Hour} (a : Acc gs hs) (s : Nat) : 0 ≤ uW gs s ∧ uW gs s ≤ allW gs gs.length := mem_water a s gs.length
theorem foldM_congr {p q : Nat → Bool} {x y : Nat → Int} : ∀ (L : List Nat) (m : Int), (∀ s ∈ L, p s = q s ∧ (q s = true → x s = y s)) → foldM p x m L = foldM q y m L
  | [], _, _ => rfl
  | s :: L, m, h => by
    obtain ⟨h1, h2⟩ := h s (by simp)
    rw [foldM_cons, foldM_cons, h1]
    by_cases hq : q s = true
    · rw [if_pos hq, if_pos hq, h2 hq]; exact foldM_congr L _ fun t ht => h t (by simp [ht])
    · rw [if_neg hq, if_neg hq]; exact foldM_congr L _ fun t ht => h t (by simp [ht])
/-- The greatest value of one hour, the water put aside. -/
def one (gs : List Gun) (h : Hour) : Int := foldM (fun s => decide (uP gs s ≤ h.power)) (fun s => uV gs h s) (-1) (List.range (2 ^ gs.length))
def ones (gs : List Gun) : List Hour → Int
  | [] => 0
  | h :: hs => one gs h + ones gs hs
theorem foldM_add {p : Nat → Bool} {x : Nat → Int} {L : List Nat} {c : Int} (hc : 0 ≤ c) (s : Nat) (hs : s ∈ L) (hp : p s = true) (hx : 0 ≤ x s) : foldM p (fun t => x t + c) (-1) L = foldM p x (-1) L + c := by
  obtain ⟨f1, f2, f3⟩ := foldM_spec p x L (-1)
  obtain ⟨g1, g2, g3⟩ := foldM_spec p (fun t => x t + c) L (-1)
  have h1 := f2 s hs hp
  have h2 := g2 s hs hp
  rcases f3 with f3 | ⟨t, ht, hpt, f3⟩
  · omega
  rcases g3 with g3 | ⟨u, hu, hpu, g3⟩
  · omega
  have h3 := g2 t ht hpt
  have h4 := f2 u hu hpu
  omega
theorem gr_apart {gs : List Gun} : ∀ {hs : List Hour}, Acc gs hs → ∀ {left : Int}, allW gs gs.length * hs.length ≤ left → gr gs hs left = ones gs hs ∧ 0 ≤ ones gs hs
  | [], _, _, _ => ⟨rfl, Int.le_refl _⟩
  | h :: hs, a, left, hl => by
    have e : allW gs gs.length * ((h :: hs).length : Int) = allW gs gs.length * hs.length + allW gs gs.length := by rw [List.length_cons, Int.natCast_add, Int.mul_add]; simp
    rw [e] at hl
    have hw0 := uW_all a 0
    have hpos : 0 ≤ allW gs gs.length * (hs.length : Int) := Int.mul_nonneg (by omega) (by omega)
    have ih0 := (gr_apart (acc_tail a) (left := allW gs gs.length * hs.length) (Int.le_refl _)).2
    have hp0 : 0 ≤ h.power := (okHour_iff.1 (a.h h (by simp))).1.1
    have hz := u_zero gs h
    have hc : gr gs (h :: hs) left = foldM (fun s => decide (uP gs s ≤ h.power)) (fun s => uV gs h s + ones gs hs) (-1) (List.range (2 ^ gs.length)) := by
      simp only [gr]
      refine foldM_congr _ _ fun s _ => ⟨?_, fun _ => ?_⟩
      · have := uW_all a s
        unfold fit
        rw [decide_eq_true (show uW gs s ≤ left by omega), Bool.true_and]
      · have := uW_all a s
        rw [(gr_apart (acc_tail a) (left := left - uW gs s) (by omega)).1]
    have h0m : 0 ∈ List.range (2 ^ gs.length) := List.mem_range.2 (Nat.two_pow_pos _)
    have hp : decide (uP gs 0 ≤ h.power) = true := decide_eq_true (by rw [hz.2.2]; exact hp0)
    rw [hc, foldM_add ih0 0 h0m hp (by rw [hz.1]; exact Int.le_refl _)]
    have h1 := (foldM_spec (fun s => decide (uP gs s ≤ h.power)) (fun s => uV gs h s) (List.range (2 ^ gs.length)) (-1)).2.1 0 h0m hp
    rw [hz.1] at h1
    exact ⟨rfl, by simp only [ones, one]; omega⟩
theorem one_apart {gs : List Gun} {h : Hour} (a : Acc gs [h]) {left : Int} (hl : allW gs gs.length ≤ left) : gr gs [h] left = one gs h := by
  have := (gr_apart a (left := left) (by simpa using hl)).1
  rw [this]; simp [ones]
end Go.Proofs.Ytnblfhoogcdcfaa.Plan
