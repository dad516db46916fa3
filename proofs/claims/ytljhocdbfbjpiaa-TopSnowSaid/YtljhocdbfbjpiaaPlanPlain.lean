/-
  The mathematics of the plans of the guns: no Go in sight.
-/
namespace Go.Proofs.Ytljhocdbfbjpiaa.Plan
structure Gun where
  id : Int
  water : Int
  power : Int
  value : Int
structure Hour where
  power : Int
  factor : Int
def gun0 : Gun := ⟨0, 0, 0, 0⟩
def hour0 : Hour := ⟨0, 0⟩
def gAt (gs : List Gun) (i : Nat) : Gun := gs[i]?.getD gun0
def hAt (hs : List Hour) (i : Nat) : Hour := hs[i]?.getD hour0
def iAt (l : List Int) (i : Nat) : Int := l[i]?.getD 0
theorem gdrop {gs : List Gun} {k : Nat} (h : k < gs.length) : gs.drop k = gAt gs k :: gs.drop (k + 1) := by
  rw [List.drop_eq_getElem_cons h]; simp [gAt, h]
theorem hdrop {hs : List Hour} {k : Nat} (h : k < hs.length) : hs.drop k = hAt hs k :: hs.drop (k + 1) := by
  rw [List.drop_eq_getElem_cons h]; simp [hAt, h]
theorem itake {l : List Int} {k : Nat} (h : k < l.length) : l.take (k + 1) = l.take k ++ [iAt l k] := by
  rw [List.take_succ_eq_append_getElem h]; simp [iAt, h]
theorem gtake {gs : List Gun} {k : Nat} (h : k < gs.length) : gs.take (k + 1) = gs.take k ++ [gAt gs k] := by
  rw [List.take_succ_eq_append_getElem h]; simp [gAt, h]

/-! ### Right -/
def fld (n : Int) : Bool := decide (0 ≤ n) && decide (n ≤ 1000000000)
def okGun (g : Gun) : Bool := decide (1 ≤ g.id) && decide (g.id ≤ 9999) && fld g.water && fld g.power && fld g.value
def okHour (h : Hour) : Bool := fld h.power && decide (0 ≤ h.factor) && decide (h.factor ≤ 1000)
theorem fld_iff {n : Int} : fld n = true ↔ 0 ≤ n ∧ n ≤ 1000000000 := by unfold fld; simp
theorem okGun_iff {g : Gun} : okGun g = true ↔ 1 ≤ g.id ∧ g.id ≤ 9999 ∧ (0 ≤ g.water ∧ g.water ≤ 1000000000) ∧ (0 ≤ g.power ∧ g.power ≤ 1000000000) ∧ (0 ≤ g.value ∧ g.value ≤ 1000000000) := by
  unfold okGun; simp only [Bool.and_eq_true, decide_eq_true_eq, fld_iff, and_assoc]
theorem okHour_iff {h : Hour} : okHour h = true ↔ (0 ≤ h.power ∧ h.power ≤ 1000000000) ∧ 0 ≤ h.factor ∧ h.factor ≤ 1000 := by
  unfold okHour; simp only [Bool.and_eq_true, decide_eq_true_eq, fld_iff, and_assoc]
/-- The first error of the guns; ids: those of the guns before. -/
def gunsE (ids : List Int) : List Gun → Int
  | [] => 0
  | g :: r => if okGun g = false then 2 else if ids.contains g.id = true then 7 else gunsE (ids ++ [g.id]) r
def hoursE : List Hour → Int
  | [] => 0
  | h :: r => if okHour h = false then 2 else hoursE r
def idsL (gs : List Gun) (k : Nat) : List Int := (gs.take k).map Gun.id
theorem ids_step {gs : List Gun} {k : Nat} (h : k < gs.length) : idsL gs (k + 1) = idsL gs k ++ [(gAt gs k).id] := by
  unfold idsL; rw [gtake h]; simp
def rightE (gs : List Gun) (hs : List Hour) : Int :=
  if 5 < gs.length ∨ 3 < hs.length then 4 else if gunsE [] gs = 0 then hoursE hs else gunsE [] gs
theorem gunsE_bad {gs : List Gun} {ids : List Int} {k : Nat} (hk : k < gs.length) (h : okGun (gAt gs k) = false) : gunsE ids (gs.drop k) = 2 := by
  rw [gdrop hk, gunsE, if_pos h]
theorem gunsE_twice {gs : List Gun} {ids : List Int} {k : Nat} (hk : k < gs.length) (h : okGun (gAt gs k) = true) (h2 : ids.contains (gAt gs k).id = true) : gunsE ids (gs.drop k) = 7 := by
  rw [gdrop hk, gunsE, if_neg (by simp [h]), if_pos h2]
theorem gunsE_next {gs : List Gun} {k : Nat} (hk : k < gs.length) (h : okGun (gAt gs k) = true) (h2 : (idsL gs k).contains (gAt gs k).id = false) : gunsE (idsL gs k) (gs.drop k) = gunsE (idsL gs (k + 1)) (gs.drop (k + 1)) := by
  rw [gdrop hk, gunsE, if_neg (by simp [h]), if_neg (by rw [h2]; decide), ids_step hk]
theorem hoursE_bad {hs : List Hour} {k : Nat} (hk : k < hs.length) (h : okHour (hAt hs k) = false) : hoursE (hs.drop k) = 2 := by
  rw [hdrop hk, hoursE, if_pos h]
theorem hoursE_next {hs : List Hour} {k : Nat} (hk : k < hs.length) (h : okHour (hAt hs k) = true) : hoursE (hs.drop k) = hoursE (hs.drop (k + 1)) := by
  rw [hdrop hk, hoursE, if_neg (by simp [h])]
theorem gunsE_zero : ∀ {gs : List Gun} {ids : List Int}, gunsE ids gs = 0 → ∀ g ∈ gs, okGun g = true
  | [], _, _ => by simp
  | g :: r, ids, h => by
    rw [gunsE] at h
    by_cases h1 : okGun g = false
    · rw [if_pos h1] at h; omega
    · rw [if_neg h1] at h
      by_cases h2 : ids.contains g.id = true
      · rw [if_pos h2] at h; omega
      · rw [if_neg h2] at h
        intro x hx
        rcases List.mem_cons.1 hx with rfl | hx
        · simpa using h1
        · exact gunsE_zero h x hx
theorem hoursE_zero : ∀ {hs : List Hour}, hoursE hs = 0 → ∀ h ∈ hs, okHour h = true
  | [], _ => by simp
  | a :: r, h => by
    rw [hoursE] at h
    by_cases h1 : okHour a = false
    · rw [if_pos h1] at h; omega
    · rw [if_neg h1] at h
      intro x hx
      rcases List.mem_cons.1 hx with rfl | hx
      · simpa using h1
      · exact hoursE_zero h x hx
/-- What accepted guns and hours are. -/
structure Acc (gs : List Gun) (hs : List Hour) : Prop where
  gl : gs.length ≤ 5
  hl : hs.length ≤ 3
  g : ∀ g ∈ gs, okGun g = true
  h : ∀ h ∈ hs, okHour h = true
theorem acc_of {gs : List Gun} {hs : List Hour} (h : rightE gs hs = 0) : Acc gs hs := by
  unfold rightE at h
  by_cases h1 : 5 < gs.length ∨ 3 < hs.length
  · rw [if_pos h1] at h; omega
  · rw [if_neg h1] at h
    by_cases h2 : gunsE [] gs = 0
    · rw [if_pos h2] at h
      exact ⟨by omega, by omega, gunsE_zero h2, hoursE_zero h⟩
    · rw [if_neg h2] at h; exact absurd h h2
theorem Acc.gun {gs : List Gun} {hs : List Hour} (a : Acc gs hs) (i : Nat) : 0 ≤ (gAt gs i).water ∧ (gAt gs i).water ≤ 1000000000 ∧ 0 ≤ (gAt gs i).power ∧ (gAt gs i).power ≤ 1000000000 ∧ 0 ≤ (gAt gs i).value ∧ (gAt gs i).value ≤ 1000000000 := by
  by_cases hi : i < gs.length
  · have hm : gAt gs i ∈ gs := by simp [gAt, hi]
    obtain ⟨_, _, ⟨h1, h2⟩, ⟨h3, h4⟩, h5, h6⟩ := okGun_iff.1 (a.g _ hm)
    exact ⟨h1, h2, h3, h4, h5, h6⟩
  · have : gAt gs i = gun0 := by simp [gAt, hi]
    rw [this]; decide
theorem Acc.hour {gs : List Gun} {hs : List Hour} (a : Acc gs hs) (i : Nat) : 0 ≤ (hAt hs i).power ∧ (hAt hs i).power ≤ 1000000000 ∧ 0 ≤ (hAt hs i).factor ∧ (hAt hs i).factor ≤ 1000 := by
  by_cases hi : i < hs.length
  · have hm : hAt hs i ∈ hs := by simp [hAt, hi]
    obtain ⟨⟨h1, h2⟩, h3, h4⟩ := okHour_iff.1 (a.h _ hm)
    exact ⟨h1, h2, h3, h4⟩
  · have : hAt hs i = hour0 := by simp [hAt, hi]
    rw [this]; decide

/-! ### One hour -/
def OkAt (n : Nat) (l : List Int) (k : Nat) : Prop := 0 ≤ iAt l k ∧ iAt l k < n ∧ (0 < k → iAt l (k - 1) < iAt l k)
instance (n : Nat) (l : List Int) (k : Nat) : Decidable (OkAt n l k) := inferInstanceAs (Decidable (_ ∧ _ ∧ _))
def okL (n : Nat) (l : List Int) : Bool := decide (∀ k, k < l.length → OkAt n l k)
theorem okL_iff {n : Nat} {l : List Int} : okL n l = true ↔ ∀ k, k < l.length → OkAt n l k := by unfold okL; exact decide_eq_true_iff
theorem okL_no {n : Nat} {l : List Int} {k : Nat} (hk : k < l.length) (h : ¬ OkAt n l k) : okL n l = false := by
  cases e : okL n l
  · rfl
  · exact absurd (okL_iff.1 e k hk) h
theorem ok_ge {n : Nat} {l : List Int} : ∀ {k : Nat}, (∀ j, j < k → OkAt n l j) → ∀ j, j < k → (j : Int) ≤ iAt l j
  | k, h, 0, hj => (h 0 hj).1
  | k, h, j + 1, hj => by
    have h1 := ok_ge h j (by omega)
    have h2 := (h (j + 1) hj).2.2 (by omega)
    rw [Nat.add_sub_cancel] at h2
    omega
theorem ok_count {n : Nat} {l : List Int} {k : Nat} (h : ∀ j, j < k → OkAt n l j) : k ≤ n := by
  cases k with
  | zero => omega
  | succ k =>
    have h1 := ok_ge h k (by omega)
    have h2 := (h k (by omega)).2.1
    omega
def tot (t : Int → Int) : List Int → Int
  | [] => 0
  | i :: r => t i + tot t r
theorem tot_app (t : Int → Int) (a b : List Int) : tot t (a ++ b) = tot t a + tot t b := by
  induction a with
  | nil => simp [tot]
  | cons x r ih => simp [tot, ih]; omega
theorem tot_take (t : Int → Int) {l : List Int} {k : Nat} (h : k < l.length) : tot t (l.take (k + 1)) = tot t (l.take k) + t (iAt l k) := by
  rw [itake h, tot_app]; simp [tot]
theorem tot_bd {t : Int → Int} {B : Int} (h : ∀ i, 0 ≤ t i ∧ t i ≤ B) (l : List Int) : 0 ≤ tot t l ∧ tot t l ≤ l.length * B := by
  induction l with
  | nil => simp [tot]
  | cons x r ih =>
    have h1 := h x
    have e : ((x :: r).length : Int) * B = r.length * B + B := by rw [List.length_cons, Int.natCast_add, Int.add_mul]; simp
    rw [e]
    simp only [tot]
    omega
def tV (gs : List Gun) (f : Int) (i : Int) : Int := (gAt gs i.toNat).value * f / 1000
def tW (gs : List Gun) (i : Int) : Int := (gAt gs i.toNat).water
def tP (gs : List Gun) (i : Int) : Int := (gAt gs i.toNat).power
def vS (gs : List Gun) (f : Int) (l : List Int) : Int := tot (tV gs f) l
def wS (gs : List Gun) (l : List Int) : Int := tot (tW gs) l
def pS (gs : List Gun) (l : List Int) : Int := tot (tP gs) l
theorem tV_bd {gs : List Gun} {hs : List Hour} (a : Acc gs hs) (k : Nat) (i : Int) : 0 ≤ tV gs (hAt hs k).factor i ∧ tV gs (hAt hs k).factor i ≤ 1000000000 := by
  have h1 := a.gun i.toNat
  have h2 := a.hour k
  unfold tV
  have b1 : 0 ≤ (gAt gs i.toNat).value * (hAt hs k).factor := Int.mul_nonneg (by omega) (by omega)
  have b2 : (gAt gs i.toNat).value * (hAt hs k).factor ≤ 1000000000 * 1000 := Int.mul_le_mul (by omega) (by omega) (by omega) (by omega)
  omega
theorem tW_bd {gs : List Gun} {hs : List Hour} (a : Acc gs hs) (i : Int) : 0 ≤ tW gs i ∧ tW gs i ≤ 1000000000 := by
  have h1 := a.gun i.toNat
  unfold tW; omega
theorem tP_bd {gs : List Gun} {hs : List Hour} (a : Acc gs hs) (i : Int) : 0 ≤ tP gs i ∧ tP gs i ≤ 1000000000 := by
  have h1 := a.gun i.toNat
  unfold tP; omega

/-! ### Plans -/
/-- The value and the water of a plan of the hours, from these on. -/
def wFrom (gs : List Gun) : List Hour → List (List Int) → Int → Int → Int × Int × Bool
  | [], [], v, w => (v, w, true)
  | h :: hs, l :: ls, v, w => if okL gs.length l = true then wFrom gs hs ls (v + vS gs h.factor l) (w + wS gs l) else (0, 0, false)
  | _, _, _, _ => (0, 0, false)
def worthE (gs : List Gun) (hs : List Hour) (ls : List (List Int)) : Int × Int × Bool := wFrom gs hs ls 0 0
theorem wFrom_len (gs : List Gun) : ∀ (hs : List Hour) (ls : List (List Int)) (v w : Int), ls.length ≠ hs.length → wFrom gs hs ls v w = (0, 0, false)
  | [], [], _, _, h => absurd rfl h
  | [], _ :: _, _, _, _ => rfl
  | _ :: _, [], _, _, _ => rfl
  | x :: hs, l :: ls, v, w, h => by
    rw [wFrom]
    split
    · exact wFrom_len gs hs ls _ _ (fun e => h (by simp [e]))
    · rfl
def lAt (ls : List (List Int)) (k : Nat) : List Int := ls[k]?.getD []
theorem ldrop {ls : List (List Int)} {k : Nat} (h : k < ls.length) : ls.drop k = lAt ls k :: ls.drop (k + 1) := by
  rw [List.drop_eq_getElem_cons h]; simp [lAt, h]
theorem wFrom_bad {gs : List Gun} {hs : List Hour} {ls : List (List Int)} {k : Nat} {v w : Int} (h1 : k < hs.length) (h2 : k < ls.length) (h : okL gs.length (lAt ls k) = false) : wFrom gs (hs.drop k) (ls.drop k) v w = (0, 0, false) := by
  rw [hdrop h1, ldrop h2, wFrom, if_neg (by simp [h])]
theorem wFrom_next {gs : List Gun} {hs : List Hour} {ls : List (List Int)} {k : Nat} {v w : Int} (h1 : k < hs.length) (h2 : k < ls.length) (h : okL gs.length (lAt ls k) = true) :
    wFrom gs (hs.drop k) (ls.drop k) v w = wFrom gs (hs.drop (k + 1)) (ls.drop (k + 1)) (v + vS gs (hAt hs k).factor (lAt ls k)) (w + wS gs (lAt ls k)) := by
  rw [hdrop h1, ldrop h2, wFrom, if_pos h]
theorem wFrom_end {gs : List Gun} {hs : List Hour} {ls : List (List Int)} {k : Nat} {v w : Int} (h1 : hs.length ≤ k) (h2 : ls.length ≤ k) : wFrom gs (hs.drop k) (ls.drop k) v w = (v, w, true) := by
  rw [List.drop_eq_nil_of_le h1, List.drop_eq_nil_of_le h2]; rfl
/-- Does each hour have the power? -/
def powOk (gs : List Gun) : List Hour → List (List Int) → Bool
  | h :: hs, l :: ls => decide (pS gs l ≤ h.power) && powOk gs hs ls
  | _, _ => true
def validE (gs : List Gun) (hs : List Hour) (water : Int) (ls : List (List Int)) : Bool :=
  (worthE gs hs ls).2.2 && decide ((worthE gs hs ls).2.1 ≤ water) && powOk gs hs ls
theorem powOk_bad {gs : List Gun} {hs : List Hour} {ls : List (List Int)} {k : Nat} (h1 : k < hs.length) (h2 : k < ls.length) (h : (hAt hs k).power < pS gs (lAt ls k)) : powOk gs (hs.drop k) (ls.drop k) = false := by
  rw [hdrop h1, ldrop h2, powOk, decide_eq_false (by omega), Bool.false_and]
theorem powOk_next {gs : List Gun} {hs : List Hour} {ls : List (List Int)} {k : Nat} (h1 : k < hs.length) (h2 : k < ls.length) (h : pS gs (lAt ls k) ≤ (hAt hs k).power) : powOk gs (hs.drop k) (ls.drop k) = powOk gs (hs.drop (k + 1)) (ls.drop (k + 1)) := by
  rw [hdrop h1, ldrop h2, powOk, decide_eq_true h, Bool.true_and]
theorem powOk_end {gs : List Gun} {hs : List Hour} {ls : List (List Int)} {k : Nat} (h2 : ls.length ≤ k) : powOk gs (hs.drop k) (ls.drop k) = true := by
  rw [List.drop_eq_nil_of_le h2]; cases hs.drop k <;> rfl
end Go.Proofs.Ytljhocdbfbjpiaa.Plan
