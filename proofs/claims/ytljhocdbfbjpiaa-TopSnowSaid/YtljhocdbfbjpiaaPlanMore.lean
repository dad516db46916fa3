/-
  The mathematics of the best plan: more water or power never makes it worth less, one gun less never makes it worth more.
-/
import Derived.Test.YtljhocdbfbjpiaaPlanTheoryB
namespace Go.Proofs.Ytljhocdbfbjpiaa.Plan

theorem pow_nn {gs : List Gun} {hs : List Hour} (a : Acc gs hs) : ∀ h ∈ hs, 0 ≤ h.power := fun h hh => (okHour_iff.1 (a.h h hh)).1.1
theorem val_nn {gs : List Gun} {hs : List Hour} (a : Acc gs hs) : ∀ h ∈ hs, ∀ s, 0 ≤ uV gs h s := fun h hh s => by
  obtain ⟨i, hi, rfl⟩ := List.getElem_of_mem hh
  have e : hAt hs i = hs[i] := by simp [hAt, hi]
  have := (u_bd a i s).1.1
  rw [e] at this; exact this

/-! ### More water -/
theorem okSel_water {gs : List Gun} : ∀ {hs : List Hour} {l l' : Int} {ss : List Nat}, l ≤ l' → okSel gs hs l ss → okSel gs hs l' ss
  | [], _, _, [], h, h0 => Int.le_trans h0 h
  | [], _, _, _ :: _, _, h => absurd h (by simp [okSel])
  | _ :: _, _, _, [], _, h => absurd h (by simp [okSel])
  | _ :: _, _, _, _ :: _, hl, ⟨h1, h2, h3⟩ => ⟨h1, fit_iff.2 ⟨by have := (fit_iff.1 h2).1; omega, (fit_iff.1 h2).2⟩, okSel_water (by omega) h3⟩
theorem gr_water {gs : List Gun} {hs : List Hour} (a : Acc gs hs) {l l' : Int} (h0 : 0 ≤ l) (h : l ≤ l') : gr gs hs l ≤ gr gs hs l' := by
  obtain ⟨ss, k1, k2, _⟩ := gr_ex gs hs l (pow_nn a) (val_nn a) h0
  rw [← k2]; exact gr_ge gs hs l' ss (okSel_water h k1)

/-! ### More power -/
def Up : List Hour → List Hour → Prop
  | [], [] => True
  | a :: r, b :: s => a.factor = b.factor ∧ a.power ≤ b.power ∧ Up r s
  | _, _ => False
theorem okSel_up {gs : List Gun} : ∀ {hs hs' : List Hour} {l : Int} {ss : List Nat}, Up hs hs' → okSel gs hs l ss → okSel gs hs' l ss ∧ selV gs hs ss = selV gs hs' ss
  | [], [], _, [], _, h0 => ⟨h0, rfl⟩
  | [], [], _, _ :: _, _, h => absurd h (by simp [okSel])
  | [], _ :: _, _, _, h, _ => absurd h (by simp [Up])
  | _ :: _, [], _, _, h, _ => absurd h (by simp [Up])
  | _ :: _, _ :: _, _, [], _, h => absurd h (by simp [okSel])
  | a :: _, b :: _, l, s :: _, ⟨u1, u2, u3⟩, ⟨h1, h2, h3⟩ => by
    obtain ⟨i1, i2⟩ := okSel_up u3 h3
    refine ⟨⟨h1, fit_iff.2 ⟨(fit_iff.1 h2).1, by have := (fit_iff.1 h2).2; omega⟩, i1⟩, ?_⟩
    simp only [selV, uV]
    rw [i2, u1]
theorem gr_up {gs : List Gun} {hs hs' : List Hour} (a : Acc gs hs) (hu : Up hs hs') {l : Int} (h0 : 0 ≤ l) : gr gs hs l ≤ gr gs hs' l := by
  obtain ⟨ss, k1, k2, _⟩ := gr_ex gs hs l (pow_nn a) (val_nn a) h0
  obtain ⟨u1, u2⟩ := okSel_up hu k1
  rw [← k2, u2]; exact gr_ge gs hs' l ss u1
theorem up_refl : ∀ hs : List Hour, Up hs hs
  | [] => trivial
  | _ :: r => ⟨rfl, Int.le_refl _, up_refl r⟩
theorem up_set : ∀ (hs : List Hour) (i : Nat) (x : Int), i < hs.length → (hAt hs i).power ≤ x → Up hs (hs.set i ⟨x, (hAt hs i).factor⟩)
  | [], _, _, h, _ => absurd h (by simp)
  | a :: r, 0, x, _, h => ⟨by simp [hAt], by simpa [hAt] using h, up_refl r⟩
  | a :: r, i + 1, x, hi, h => by
    have e : hAt (a :: r) (i + 1) = hAt r i := by simp [hAt]
    rw [e] at h ⊢
    exact ⟨rfl, Int.le_refl _, up_set r i x (by simpa using hi) h⟩
theorem hoursE_all : ∀ {hs : List Hour}, (∀ h ∈ hs, okHour h = true) → hoursE hs = 0
  | [], _ => rfl
  | a :: r, h => by
    rw [hoursE, if_neg (by rw [h a (by simp)]; decide)]
    exact hoursE_all fun x hx => h x (by simp [hx])
theorem right_parts {gs : List Gun} {hs : List Hour} (h : rightE gs hs = 0) : gs.length ≤ 5 ∧ hs.length ≤ 3 ∧ gunsE [] gs = 0 ∧ hoursE hs = 0 := by
  unfold rightE at h
  by_cases h1 : 5 < gs.length ∨ 3 < hs.length
  · rw [if_pos h1] at h; omega
  · rw [if_neg h1] at h
    by_cases h2 : gunsE [] gs = 0
    · rw [if_pos h2] at h; exact ⟨by omega, by omega, h2, h⟩
    · rw [if_neg h2] at h; exact absurd h h2
theorem right_join {gs : List Gun} {hs : List Hour} (h1 : gs.length ≤ 5) (h2 : hs.length ≤ 3) (h3 : gunsE [] gs = 0) (h4 : hoursE hs = 0) : rightE gs hs = 0 := by
  unfold rightE
  rw [if_neg (by omega), if_pos h3, h4]
theorem right_set {gs : List Gun} {hs : List Hour} (h : rightE gs hs = 0) (i : Nat) {x : Int} (h0 : 0 ≤ x) (h1 : x ≤ 1000000000) : rightE gs (hs.set i ⟨x, (hAt hs i).factor⟩) = 0 := by
  obtain ⟨r1, r2, r3, r4⟩ := right_parts h
  have hb := (acc_of h).hour i
  refine right_join r1 (by simpa using r2) r3 (hoursE_all fun y hy => ?_)
  rcases List.mem_or_eq_of_mem_set hy with hy | rfl
  · exact hoursE_zero r4 y hy
  · exact okHour_iff.2 ⟨⟨h0, h1⟩, hb.2.2.1, hb.2.2.2⟩

/-! ### One gun less -/
theorem gunsE_sub {gs' gs : List Gun} (hs : List.Sublist gs' gs) : ∀ {ids ids' : List Int}, (∀ x ∈ ids', x ∈ ids) → gunsE ids gs = 0 → gunsE ids' gs' = 0 := by
  induction hs with
  | slnil => intro _ _ _ _; rfl
  | cons a _ ih =>
    intro ids ids' hi h
    rw [gunsE] at h
    by_cases h1 : okGun a = false
    · rw [if_pos h1] at h; omega
    · rw [if_neg h1] at h
      by_cases h2 : ids.contains a.id = true
      · rw [if_pos h2] at h; omega
      · rw [if_neg h2] at h
        exact ih (fun x hx => by simp [hi x hx]) h
  | cons_cons a _ ih =>
    intro ids ids' hi h
    rw [gunsE] at h ⊢
    by_cases h1 : okGun a = false
    · rw [if_pos h1] at h; omega
    · rw [if_neg h1] at h ⊢
      by_cases h2 : ids.contains a.id = true
      · rw [if_pos h2] at h; omega
      · rw [if_neg h2] at h
        rw [if_neg (fun e => h2 (by simp at e ⊢; exact hi _ e))]
        refine ih (fun x hx => ?_) h
        rcases List.mem_append.1 hx with hx | hx
        · simp [hi x hx]
        · simp at hx; simp [hx]
theorem right_less {gs : List Gun} {hs : List Hour} (h : rightE gs hs = 0) (i : Nat) : rightE (gs.eraseIdx i) hs = 0 := by
  obtain ⟨r1, r2, r3, r4⟩ := right_parts h
  exact right_join (Nat.le_trans (List.eraseIdx_sublist gs i).length_le r1) r2 (gunsE_sub (List.eraseIdx_sublist gs i) (fun _ hx => hx) r3) r4
def sh (i : Nat) (x : Int) : Int := if x < i then x else x + 1
theorem sh_at {gs : List Gun} {i : Nat} {x : Int} (h0 : 0 ≤ x) : gAt gs (sh i x).toNat = gAt (gs.eraseIdx i) x.toNat := by
  obtain ⟨k, rfl⟩ := Int.eq_ofNat_of_zero_le h0
  unfold gAt sh
  rw [List.getElem?_eraseIdx]
  by_cases h : k < i
  · rw [if_pos (by omega), if_pos (by simpa using h)]
  · rw [if_neg (by omega), if_neg (by simpa using h)]
    rfl
theorem tot_sh {i : Nat} {t t' : Int → Int} (ht : ∀ x, 0 ≤ x → t (sh i x) = t' x) : ∀ (l : List Int), (∀ x ∈ l, 0 ≤ x) → tot t (l.map (sh i)) = tot t' l
  | [], _ => rfl
  | x :: r, h => by
    simp only [List.map_cons, tot]
    rw [ht x (h x (by simp)), tot_sh ht r fun y hy => h y (by simp [hy])]
theorem ok_mem {n : Nat} {l : List Int} (h : okL n l = true) : ∀ x ∈ l, 0 ≤ x := fun x hx => by
  obtain ⟨i, hi, rfl⟩ := List.getElem_of_mem hx
  have := (okL_iff.1 h i hi).1
  simpa [iAt, hi] using this
theorem ok_sh {n i : Nat} {l : List Int} (h : okL n l = true) : okL (n + 1) (l.map (sh i)) = true := by
  refine okL_iff.2 fun k hk => ?_
  have hk' : k < l.length := by simpa using hk
  obtain ⟨a1, a2, a3⟩ := okL_iff.1 h k hk'
  have e : ∀ j, j < l.length → iAt (l.map (sh i)) j = sh i (iAt l j) := fun j hj => by simp [iAt, hj]
  refine ⟨?_, ?_, fun h0 => ?_⟩
  · rw [e k hk']; unfold sh; split <;> omega
  · rw [e k hk']; unfold sh; split <;> omega
  · rw [e k hk', e (k - 1) (by omega)]
    have := a3 h0
    unfold sh
    split <;> split <;> omega
theorem less_set {gs : List Gun} {i : Nat} (hi : i < gs.length) (s : Nat) : ∃ s', s' < 2 ^ gs.length ∧ (∀ h, uV gs h s' = uV (gs.eraseIdx i) h s) ∧ uW gs s' = uW (gs.eraseIdx i) s ∧ uP gs s' = uP (gs.eraseIdx i) s := by
  have hn : (gs.eraseIdx i).length + 1 = gs.length := by rw [List.length_eraseIdx, if_pos hi]; omega
  have hok : okL (gs.eraseIdx i).length (memL (gs.eraseIdx i).length s) = true := memL_ok
  have hm := ok_mem hok
  obtain ⟨s', h1, h2⟩ := memL_surj _ _ (ok_sh (i := i) hok)
  rw [hn] at h1 h2
  refine ⟨s', h1, fun h => ?_, ?_, ?_⟩
  · unfold uV vS; rw [h2]; exact tot_sh (fun x hx => by unfold tV; rw [sh_at hx]) _ hm
  · unfold uW wS; rw [h2]; exact tot_sh (fun x hx => by unfold tW; rw [sh_at hx]) _ hm
  · unfold uP pS; rw [h2]; exact tot_sh (fun x hx => by unfold tP; rw [sh_at hx]) _ hm
theorem less_sel {gs : List Gun} {i : Nat} (hi : i < gs.length) : ∀ {hs : List Hour} {l : Int} {ss : List Nat}, okSel (gs.eraseIdx i) hs l ss → ∃ ss', okSel gs hs l ss' ∧ selV gs hs ss' = selV (gs.eraseIdx i) hs ss
  | [], _, [], h0 => ⟨[], h0, rfl⟩
  | [], _, _ :: _, h => absurd h (by simp [okSel])
  | _ :: _, _, [], h => absurd h (by simp [okSel])
  | h :: _, _, s :: _, ⟨_, h2, h3⟩ => by
    obtain ⟨ss', k1, k2⟩ := less_sel hi h3
    obtain ⟨s', m1, m2, m3, m4⟩ := less_set hi s
    have hf := fit_iff.1 h2
    refine ⟨s' :: ss', ⟨m1, fit_iff.2 ⟨by rw [m3]; exact hf.1, by rw [m4]; exact hf.2⟩, by rw [m3]; exact k1⟩, ?_⟩
    simp only [selV]
    rw [m2, k2]
theorem gr_less {gs : List Gun} {hs : List Hour} {i : Nat} (hi : i < gs.length) (a : Acc (gs.eraseIdx i) hs) {l : Int} (h0 : 0 ≤ l) : gr (gs.eraseIdx i) hs l ≤ gr gs hs l := by
  obtain ⟨ss, k1, k2, _⟩ := gr_ex _ hs l (pow_nn a) (val_nn a) h0
  obtain ⟨ss', m1, m2⟩ := less_sel hi k1
  rw [← k2, ← m2]; exact gr_ge gs hs l ss' m1
/-- With no guns a plan is worth nothing. -/
theorem gr_none (hs : List Hour) {l : Int} (a : Acc [] hs) (h0 : 0 ≤ l) : gr [] hs l = 0 := by
  obtain ⟨ss, k1, k2, _⟩ := gr_ex [] hs l (pow_nn a) (val_nn a) h0
  rw [← k2]
  exact key k1
where key : ∀ {hs : List Hour} {l : Int} {ss : List Nat}, okSel [] hs l ss → selV [] hs ss = 0
  | [], _, [], _ => rfl
  | [], _, _ :: _, h => absurd h (by simp [okSel])
  | _ :: _, _, [], h => absurd h (by simp [okSel])
  | h :: _, _, s :: _, ⟨_, _, h3⟩ => by
    simp only [selV]
    rw [key h3]
    unfold uV vS
    simp [memL, tot]
end Go.Proofs.Ytljhocdbfbjpiaa.Plan
