/-
  The mathematics of the best plan: what the search finds is worth most.
-/
import Derived.Test.YtljhocdbfbjpiaaPlanGreat
namespace Go.Proofs.Ytljhocdbfbjpiaa.Plan

/-! ### Folds that take the greatest -/
def foldM (p : Nat → Bool) (x : Nat → Int) (m : Int) (L : List Nat) : Int := L.foldl (fun m s => if p s = true then max m (x s) else m) m
theorem foldM_cons (p : Nat → Bool) (x : Nat → Int) (m : Int) (s : Nat) (L : List Nat) : foldM p x m (s :: L) = foldM p x (if p s = true then max m (x s) else m) L := rfl
theorem foldM_spec (p : Nat → Bool) (x : Nat → Int) : ∀ (L : List Nat) (m : Int), m ≤ foldM p x m L ∧ (∀ s ∈ L, p s = true → x s ≤ foldM p x m L) ∧ (foldM p x m L = m ∨ ∃ s ∈ L, p s = true ∧ foldM p x m L = x s)
  | [], m => ⟨Int.le_refl _, by simp, .inl rfl⟩
  | s :: L, m => by
    rw [foldM_cons]
    obtain ⟨h1, h2, h3⟩ := foldM_spec p x L (if p s = true then max m (x s) else m)
    by_cases hp : p s = true
    · rw [if_pos hp] at h1 h2 h3 ⊢
      refine ⟨by omega, fun t ht hpt => ?_, ?_⟩
      · rcases List.mem_cons.1 ht with rfl | ht
        · omega
        · exact h2 t ht hpt
      · rcases h3 with h3 | ⟨t, ht, hpt, h3⟩
        · rcases Int.le_total m (x s) with h | h
          · exact .inr ⟨s, by simp, hp, by omega⟩
          · exact .inl (by omega)
        · exact .inr ⟨t, by simp [ht], hpt, h3⟩
    · rw [if_neg hp] at h1 h2 h3 ⊢
      refine ⟨h1, fun t ht hpt => ?_, ?_⟩
      · rcases List.mem_cons.1 ht with rfl | ht
        · exact absurd hpt hp
        · exact h2 t ht hpt
      · rcases h3 with h3 | ⟨t, ht, hpt, h3⟩
        · exact .inl h3
        · exact .inr ⟨t, by simp [ht], hpt, h3⟩

/-! ### The greatest value -/
def gr (gs : List Gun) : List Hour → Int → Int
  | [], _ => 0
  | h :: hs, left => foldM (fit gs h left) (fun set => uV gs h set + gr gs hs (left - uW gs set)) (-1) (List.range (2 ^ gs.length))
def okSel (gs : List Gun) : List Hour → Int → List Nat → Prop
  | [], left, [] => 0 ≤ left
  | h :: hs, left, s :: ss => s < 2 ^ gs.length ∧ fit gs h left s = true ∧ okSel gs hs (left - uW gs s) ss
  | _, _, _ => False
def selV (gs : List Gun) : List Hour → List Nat → Int
  | h :: hs, s :: ss => uV gs h s + selV gs hs ss
  | _, _ => 0
theorem memL_zero (n : Nat) : memL n 0 = [] := by
  induction n with
  | zero => rfl
  | succ n ih => rw [memL_succ, if_neg (by simp)]; exact ih
theorem u_zero (gs : List Gun) (h : Hour) : uV gs h 0 = 0 ∧ uW gs 0 = 0 ∧ uP gs 0 = 0 := by
  unfold uV uW uP
  rw [memL_zero]
  exact ⟨rfl, rfl, rfl⟩
theorem fit_iff {gs : List Gun} {h : Hour} {left : Int} {s : Nat} : fit gs h left s = true ↔ uW gs s ≤ left ∧ uP gs s ≤ h.power := by
  unfold fit; simp
theorem fit_zero (gs : List Gun) {h : Hour} {left : Int} (h0 : 0 ≤ left) (h1 : 0 ≤ h.power) : fit gs h left 0 = true := by
  rw [fit_iff, (u_zero gs h).2.1, (u_zero gs h).2.2]; exact ⟨h0, h1⟩
/-- Every choice is worth no more. -/
theorem gr_ge (gs : List Gun) : ∀ (hs : List Hour) (left : Int) (ss : List Nat), okSel gs hs left ss → selV gs hs ss ≤ gr gs hs left
  | [], _, [], _ => Int.le_refl _
  | [], _, _ :: _, h => absurd h (by simp [okSel])
  | _ :: _, _, [], h => absurd h (by simp [okSel])
  | h :: hs, left, s :: ss, ⟨h1, h2, h3⟩ => by
    have ih := gr_ge gs hs _ ss h3
    have := (foldM_spec (fit gs h left) (fun set => uV gs h set + gr gs hs (left - uW gs set)) (List.range (2 ^ gs.length)) (-1)).2.1 s (List.mem_range.2 h1) h2
    simp only [selV, gr]
    omega
/-- Some choice is worth as much. -/
theorem gr_ex (gs : List Gun) : ∀ (hs : List Hour) (left : Int), (∀ h ∈ hs, 0 ≤ h.power) → (∀ h ∈ hs, ∀ s, 0 ≤ uV gs h s) → 0 ≤ left → ∃ ss, okSel gs hs left ss ∧ selV gs hs ss = gr gs hs left ∧ 0 ≤ gr gs hs left
  | [], left, _, _, h0 => ⟨[], h0, rfl, Int.le_refl _⟩
  | h :: hs, left, hp, hv, h0 => by
    have hfz := fit_zero gs h0 (hp h (by simp))
    obtain ⟨f1, f2, f3⟩ := foldM_spec (fit gs h left) (fun set => uV gs h set + gr gs hs (left - uW gs set)) (List.range (2 ^ gs.length)) (-1)
    have hz := f2 0 (List.mem_range.2 (Nat.two_pow_pos _)) hfz
    rw [(u_zero gs h).1, (u_zero gs h).2.1, Int.sub_zero, Int.zero_add] at hz
    obtain ⟨_, _, _, hg0⟩ := gr_ex gs hs left (fun x hx => hp x (by simp [hx])) (fun x hx => hv x (by simp [hx])) h0
    rcases f3 with f3 | ⟨s, hs1, hs2, f3⟩
    · omega
    · have hl : 0 ≤ left - uW gs s := by have := (fit_iff.1 hs2).1; omega
      obtain ⟨ss, k1, k2, k3⟩ := gr_ex gs hs (left - uW gs s) (fun x hx => hp x (by simp [hx])) (fun x hx => hv x (by simp [hx])) hl
      refine ⟨s :: ss, ⟨List.mem_range.1 hs1, hs2, k1⟩, ?_, ?_⟩
      · simp only [selV, gr]
        rw [f3, k2]
      · simp only [gr]; omega
/-! ### The search -/
theorem tr_spec (gs : List Gun) : ∀ (hs : List Hour) (pre : List Nat) (v left : Int) (st : Int × List Nat), 0 ≤ left →
    st.1 ≤ (tr gs hs pre v left st).1 ∧ (∀ ss, okSel gs hs left ss → v + selV gs hs ss ≤ (tr gs hs pre v left st).1) ∧ (tr gs hs pre v left st = st ∨ ∃ ss, okSel gs hs left ss ∧ tr gs hs pre v left st = (v + selV gs hs ss, pre ++ ss))
  | [], pre, v, left, st, h0 => by
    unfold tr
    by_cases h : st.1 < v
    · rw [if_pos h]
      refine ⟨by simp; omega, fun ss hss => ?_, .inr ⟨[], h0, by simp [selV]⟩⟩
      match ss, hss with
      | [], _ => simp [selV]
    · rw [if_neg h]
      refine ⟨Int.le_refl _, fun ss hss => ?_, .inl rfl⟩
      match ss, hss with
      | [], _ => simp [selV]; omega
  | h :: hs, pre, v, left, st, h0 => by
    rw [tr_cons]
    have key : ∀ s, s ≤ 2 ^ gs.length → st.1 ≤ (trTo gs h hs pre v left st s).1 ∧ (∀ t ss, t < s → okSel gs (h :: hs) left (t :: ss) → v + selV gs (h :: hs) (t :: ss) ≤ (trTo gs h hs pre v left st s).1) ∧
        (trTo gs h hs pre v left st s = st ∨ ∃ ss, okSel gs (h :: hs) left ss ∧ trTo gs h hs pre v left st s = (v + selV gs (h :: hs) ss, pre ++ ss)) := by
      intro s
      induction s with
      | zero => intro _; exact ⟨Int.le_refl _, fun t _ ht => absurd ht (by omega), .inl rfl⟩
      | succ s ih =>
        intro hs1
        obtain ⟨i1, i2, i3⟩ := ih (by omega)
        rw [trTo_succ]
        unfold trStep
        by_cases hf : fit gs h left s = true
        · rw [if_pos hf]
          have hl : 0 ≤ left - uW gs s := by have := (fit_iff.1 hf).1; omega
          obtain ⟨j1, j2, j3⟩ := tr_spec gs hs (pre ++ [s]) (v + uV gs h s) (left - uW gs s) (trTo gs h hs pre v left st s) hl
          refine ⟨by omega, fun t ss ht hok => ?_, ?_⟩
          · rcases Nat.lt_or_ge t s with hts | hts
            · have := i2 t ss hts hok; omega
            · obtain rfl : t = s := by omega
              have := j2 ss hok.2.2
              simp only [selV]; omega
          · rcases j3 with j3 | ⟨ss, k1, k2⟩
            · rw [j3]; exact i3
            · exact .inr ⟨s :: ss, ⟨by omega, hf, k1⟩, by rw [k2]; simp [selV, Int.add_assoc]⟩
        · rw [if_neg hf]
          refine ⟨i1, fun t ss ht hok => ?_, i3⟩
          rcases Nat.lt_or_ge t s with hts | hts
          · exact i2 t ss hts hok
          · obtain rfl : t = s := by omega
            exact absurd hok.2.1 hf
    obtain ⟨k1, k2, k3⟩ := key _ (Nat.le_refl _)
    refine ⟨k1, fun ss hok => ?_, k3⟩
    match ss, hok with
    | t :: ss, hok => exact k2 t ss hok.1 hok
theorem zeros_ok (gs : List Gun) : ∀ (hs : List Hour) (left : Int), (∀ h ∈ hs, 0 ≤ h.power) → 0 ≤ left → okSel gs hs left (List.replicate hs.length 0) ∧ selV gs hs (List.replicate hs.length 0) = 0
  | [], left, _, h0 => ⟨h0, rfl⟩
  | h :: hs, left, hp, h0 => by
    obtain ⟨i1, i2⟩ := zeros_ok gs hs left (fun x hx => hp x (by simp [hx])) h0
    rw [List.length_cons, List.replicate_succ]
    refine ⟨⟨Nat.two_pow_pos _, fit_zero gs h0 (hp h (by simp)), by rw [(u_zero gs h).2.1, Int.sub_zero]; exact i1⟩, ?_⟩
    simp only [selV]
    rw [(u_zero gs h).1, i2]; rfl
/-- What the search ends with is a choice, and worth most. -/
theorem best_spec {gs : List Gun} {hs : List Hour} (a : Acc gs hs) {water : Int} (h0 : 0 ≤ water) : okSel gs hs water (bestS gs hs water).2 ∧ selV gs hs (bestS gs hs water).2 = gr gs hs water := by
  have hp : ∀ h ∈ hs, 0 ≤ h.power := fun h hh => (okHour_iff.1 (a.h h hh)).1.1
  have hv : ∀ h ∈ hs, ∀ s, 0 ≤ uV gs h s := fun h hh s => by
    obtain ⟨i, hi, rfl⟩ := List.getElem_of_mem hh
    have e : hAt hs i = hs[i] := by simp [hAt, hi]
    have := (u_bd a i s).1.1
    rw [e] at this; exact this
  obtain ⟨t1, t2, t3⟩ := tr_spec gs hs [] 0 water (0, List.replicate hs.length 0) h0
  obtain ⟨z1, z2⟩ := zeros_ok gs hs water hp h0
  obtain ⟨ss, g1, g2, g3⟩ := gr_ex gs hs water hp hv h0
  have hb : bestS gs hs water = tr gs hs [] 0 water (0, List.replicate hs.length 0) := rfl
  have hge := t2 ss g1
  rw [g2] at hge
  rw [hb]
  rcases t3 with t3 | ⟨ss', k1, k2⟩
  · rw [t3] at hge ⊢
    dsimp only at hge ⊢
    refine ⟨z1, ?_⟩
    have := gr_ge gs hs water _ z1
    omega
  · rw [k2] at hge ⊢
    simp only [List.nil_append] at hge ⊢
    refine ⟨k1, ?_⟩
    have := gr_ge gs hs water ss' k1
    omega
end Go.Proofs.Ytljhocdbfbjpiaa.Plan
