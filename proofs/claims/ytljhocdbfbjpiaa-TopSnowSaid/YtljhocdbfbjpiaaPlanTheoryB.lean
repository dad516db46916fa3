/-
  The mathematics of the best plan: the plan that is handed back is valid and worth most; every valid plan is a choice of sets.
-/
import Derived.Test.YtljhocdbfbjpiaaPlanTheory
namespace Go.Proofs.Ytljhocdbfbjpiaa.Plan

def selW (gs : List Gun) : List Nat → Int
  | s :: ss => uW gs s + selW gs ss
  | [] => 0
theorem sel_len {gs : List Gun} : ∀ {hs : List Hour} {left : Int} {ss : List Nat}, okSel gs hs left ss → ss.length = hs.length
  | [], _, [], _ => rfl
  | [], _, _ :: _, h => absurd h (by simp [okSel])
  | _ :: _, _, [], h => absurd h (by simp [okSel])
  | _ :: hs, _, _ :: ss, ⟨_, _, h⟩ => by simp [sel_len h]
theorem wFrom_sel (gs : List Gun) : ∀ (hs : List Hour) (ss : List Nat) (v w : Int), ss.length = hs.length → wFrom gs hs (ss.map (memL gs.length)) v w = (v + selV gs hs ss, w + selW gs ss, true)
  | [], [], v, w, _ => by simp [wFrom, selV, selW]
  | [], _ :: _, _, _, h => absurd h (by simp)
  | _ :: _, [], _, _, h => absurd h (by simp)
  | h :: hs, s :: ss, v, w, hl => by
    rw [List.map_cons, wFrom, if_pos memL_ok, wFrom_sel gs hs ss _ _ (by simpa using hl)]
    simp only [selV, selW, uV, uW, Int.add_assoc]
theorem sel_water {gs : List Gun} : ∀ {hs : List Hour} {left : Int} {ss : List Nat}, okSel gs hs left ss → selW gs ss ≤ left
  | [], _, [], h => h
  | [], _, _ :: _, h => absurd h (by simp [okSel])
  | _ :: _, _, [], h => absurd h (by simp [okSel])
  | _ :: hs, left, s :: ss, ⟨_, _, h⟩ => by
    have := sel_water h
    simp only [selW]; omega
theorem sel_pow {gs : List Gun} : ∀ {hs : List Hour} {left : Int} {ss : List Nat}, okSel gs hs left ss → powOk gs hs (ss.map (memL gs.length)) = true
  | [], _, [], _ => rfl
  | [], _, _ :: _, h => absurd h (by simp [okSel])
  | _ :: _, _, [], h => absurd h (by simp [okSel])
  | h :: hs, left, s :: ss, ⟨_, h2, h3⟩ => by
    rw [List.map_cons, powOk, sel_pow h3, Bool.and_true]
    exact decide_eq_true (fit_iff.1 h2).2
/-- The plan that is handed back. -/
theorem best_worth {gs : List Gun} {hs : List Hour} (a : Acc gs hs) {water : Int} (h0 : 0 ≤ water) :
    (worthE gs hs (bestL gs hs water)).1 = gr gs hs water ∧ (worthE gs hs (bestL gs hs water)).2.2 = true ∧ validE gs hs water (bestL gs hs water) = true := by
  obtain ⟨b1, b2⟩ := best_spec a h0
  have hw : worthE gs hs (bestL gs hs water) = (0 + selV gs hs (bestS gs hs water).2, 0 + selW gs (bestS gs hs water).2, true) := wFrom_sel gs hs _ 0 0 (sel_len b1)
  have hp := sel_pow b1
  have hx := sel_water b1
  refine ⟨by rw [hw, b2]; simp, by rw [hw], ?_⟩
  unfold validE
  rw [hw]
  have hp' : powOk gs hs (bestL gs hs water) = true := hp
  rw [hp']
  simp; exact hx
theorem great_gr {gs : List Gun} {hs : List Hour} (a : Acc gs hs) {water : Int} (h0 : 0 ≤ water) : greatE gs hs water = gr gs hs water := by
  unfold greatE
  rw [if_neg (by omega)]
  exact (best_worth a h0).1

/-! ### Every plan is a choice -/
theorem memL_congr {a b : Nat} : ∀ {n : Nat}, (∀ i, i < n → a.testBit i = b.testBit i) → memL n a = memL n b
  | 0, _ => rfl
  | n + 1, h => by rw [memL_succ, memL_succ, h n (by omega), memL_congr fun i hi => h i (by omega)]
theorem okL_init {n : Nat} {l : List Int} {x : Int} (h : okL n (l ++ [x]) = true) (hx : x = (n : Int) - 1) : okL (n - 1) l = true := by
  refine okL_iff.2 fun k hk => ?_
  have h' := okL_iff.1 h
  have hlen : (l ++ [x]).length = l.length + 1 := by simp
  have e : ∀ j, j < l.length → iAt (l ++ [x]) j = iAt l j := fun j hj => by simp [iAt, List.getElem?_append_left hj]
  have el : iAt (l ++ [x]) l.length = x := by simp [iAt]
  have mono : ∀ d j, j + d + 1 = l.length → iAt l j < x := by
    intro d
    induction d with
    | zero =>
      intro j hj
      have := (h' l.length (by omega)).2.2 (by omega)
      rw [el, e _ (by omega), show l.length - 1 = j by omega] at this
      exact this
    | succ d ih =>
      intro j hj
      have h1 := ih (j + 1) (by omega)
      have := (h' (j + 1) (by omega)).2.2 (by omega)
      rw [e _ (by omega), e _ (by omega), Nat.add_sub_cancel] at this
      omega
  obtain ⟨a1, a2, a3⟩ := h' k (by omega)
  rw [e k hk] at a1 a2 a3
  refine ⟨a1, ?_, fun h0 => ?_⟩
  · have := mono (l.length - 1 - k) k (by omega)
    omega
  · have := a3 h0
    rw [e (k - 1) (by omega)] at this
    exact this
theorem memL_surj : ∀ (n : Nat) (l : List Int), okL n l = true → ∃ s, s < 2 ^ n ∧ memL n s = l
  | 0, l, h => by
    have hl := ok_count (okL_iff.1 h)
    have : l = [] := List.eq_nil_of_length_eq_zero (by omega)
    exact ⟨0, by decide, by rw [this]; rfl⟩
  | n + 1, l, h => by
    rcases List.eq_nil_or_concat l with rfl | ⟨l', x, rfl⟩
    · exact ⟨0, Nat.two_pow_pos _, memL_zero _⟩
    · rw [List.concat_eq_append] at h ⊢
      by_cases hx : x = (n : Int)
      · obtain ⟨s, h1, h2⟩ := memL_surj n l' (by have := okL_init h (by rw [hx]; omega); simpa using this)
        refine ⟨2 ^ n + s, by rw [Nat.pow_succ]; omega, ?_⟩
        rw [memL_succ, if_pos (by rw [Nat.testBit_two_pow_add_eq, Nat.testBit_lt_two_pow h1]; rfl), hx]
        rw [memL_congr (b := s) fun i hi => Nat.testBit_two_pow_add_gt hi s, h2]
      · have hn : okL n (l' ++ [x]) = true := by
          refine okL_iff.2 fun k hk => ?_
          have h' := okL_iff.1 h
          obtain ⟨a1, a2, a3⟩ := h' k hk
          have hlen : (l' ++ [x]).length = l'.length + 1 := by simp
          have el : iAt (l' ++ [x]) l'.length = x := by simp [iAt]
          have hxl : iAt (l' ++ [x]) l'.length < (n + 1 : Nat) := (h' l'.length (by omega)).2.1
          rw [el] at hxl
          have mono : ∀ d j, j + d = l'.length → iAt (l' ++ [x]) j ≤ x := by
            intro d
            induction d with
            | zero => intro j hj; rw [show j = l'.length by omega, el]; exact Int.le_refl _
            | succ d ih =>
              intro j hj
              have h1 := ih (j + 1) (by omega)
              have := (h' (j + 1) (by omega)).2.2 (by omega)
              rw [Nat.add_sub_cancel] at this
              omega
          have := mono (l'.length - k) k (by omega)
          exact ⟨a1, by omega, a3⟩
        obtain ⟨s, h1, h2⟩ := memL_surj n _ hn
        refine ⟨s, by rw [Nat.pow_succ]; omega, ?_⟩
        rw [memL_succ, if_neg (by rw [Nat.testBit_lt_two_pow h1]; decide), h2]
/-- A valid plan is worth no more than the greatest value. -/
theorem valid_le {gs : List Gun} : ∀ {hs : List Hour} {ls : List (List Int)} {v w left : Int}, (wFrom gs hs ls v w).2.2 = true → (wFrom gs hs ls v w).2.1 - w ≤ left → powOk gs hs ls = true → (∀ l ∈ ls, 0 ≤ wS gs l) →
    ∃ ss, okSel gs hs left ss ∧ (wFrom gs hs ls v w).1 = v + selV gs hs ss
  | [], [], v, w, left, _, h2, _, _ => ⟨[], by simp [wFrom] at h2; simpa [okSel] using h2, by simp [wFrom, selV]⟩
  | [], _ :: _, _, _, _, h, _, _, _ => by cases h
  | _ :: _, [], _, _, _, h, _, _, _ => by cases h
  | x :: hs, l :: ls, v, w, left, h1, h2, h3, h4 => by
    rw [wFrom] at h1 h2 ⊢
    by_cases hl : okL gs.length l = true
    · rw [if_pos hl] at h1 h2 ⊢
      rw [powOk, Bool.and_eq_true, decide_eq_true_eq] at h3
      obtain ⟨s, hs1, hs2⟩ := memL_surj _ l hl
      obtain ⟨ss, k1, k2⟩ := valid_le (left := left - wS gs l) h1 (by omega) h3.2 (fun y hy => h4 y (by simp [hy]))
      have hnn := sel_nonneg h1 (fun y hy => h4 y (by simp [hy]))
      refine ⟨s :: ss, ⟨hs1, fit_iff.2 ⟨?_, ?_⟩, ?_⟩, ?_⟩
      · unfold uW; rw [hs2]; omega
      · unfold uP; rw [hs2]; exact h3.1
      · unfold uW; rw [hs2]; exact k1
      · rw [k2]; simp only [selV, uV]; rw [hs2]; omega
    · rw [if_neg hl] at h1; cases h1
where sel_nonneg {gs : List Gun} : ∀ {hs : List Hour} {ls : List (List Int)} {v w : Int}, (wFrom gs hs ls v w).2.2 = true → (∀ l ∈ ls, 0 ≤ wS gs l) → w ≤ (wFrom gs hs ls v w).2.1
  | [], [], v, w, _, _ => Int.le_refl _
  | [], _ :: _, _, _, h, _ => by cases h
  | _ :: _, [], _, _, h, _ => by cases h
  | x :: hs, l :: ls, v, w, h1, h4 => by
    rw [wFrom] at h1 ⊢
    by_cases hl : okL gs.length l = true
    · rw [if_pos hl] at h1 ⊢
      have := sel_nonneg h1 (fun y hy => h4 y (by simp [hy]))
      have := h4 l (by simp)
      omega
    · rw [if_neg hl] at h1; cases h1
end Go.Proofs.Ytljhocdbfbjpiaa.Plan
